/- Texts of this claim set one behind another by wip/bundle.py: XReadF, XReadX, PXf44, PXf11, PXf3, XLawReadFiles. -/
import Derived.Test.YtkjgnnhpjcofiaaGreatDoorBReadFiles44
import Derived.Test.YtkjgnnhpjcofiaaGreatDoorBReadFiles39
import Derived.Test.YtkjgnnhpjcofiaaGreatDoorBReadFiles23
import Derived.Test.YtkjgnnhpjcofiaaGreatDoorBReadFiles43
import Derived.Test.YtkjgnnhpjcofiaaGreatDoorBReadFiles14
import Derived.Test.YtkjgnnhpjcofiaaGreatDoorBReadFiles8
import Derived.Test.YtkjgnnhpjcofiaaGreatDoorBReadFiles40
import Derived.Test.YtkjgnnhpjcofiaaGreatDoorBReadFiles15
namespace Go.Proofs.YtkjgnnhpjcofiaaGreatDoor.PX.X
open Go Go.RowKit Go.Lib Go.Proofs.YtkjgnnhpjcofiaaGreatDoorW.PrintWords Go.Proofs.YtkjgnnhpjcofiaaGreatDoor.PX
set_option linter.unusedVariables false
set_option linter.unusedSimpArgs false
set_option maxHeartbeats 4000000 in
set_option maxRecDepth 100000 in
theorem filesI_calls (K : Nat) (A0 : Option Addr) (c0 : Nat) (l0 : List S65) (gt : ByteArray → ByteArray × Bool) (de : ByteArray → List EntT × Bool) (w : World) (hr0 : Kd.C k65 w A0 l0.length l0) (hc0 : l0.length ≤ c0) (hgt : ∀ x, impl_get.f l0 2 x = some (gt x)) (hde : ∀ x, (gt x).2 = true → impl_decodeTree.f K (gt x).1 = some (de (gt x).1)) (G : GoodN (ndG gt de))
 (t : ByteArray) (kq : Nat) (c n' : Int) (out : List FileT) (hV : walkV (ndG gt de) kq 0 t (⟨#[]⟩ : ByteArray) 0 = some (c, n', out)) :
 Calls Tryz.prog 44 #[.slice A0 l0.length c0, .string t] w fun e w' => ∃ v, e = .returned (.agg #[.int .i64 (endV (c, n', out)).1, v]) ∧ Kd.R k75 75 w' w.heap.size (fun _ => True) v (endV (c, n', out)).2 ∧ Below w.heap.size w w' := by
 have hnd := (walkV_apart G kq 0 t (⟨#[]⟩ : ByteArray) 0 _ hV).2
 have HRD := Lib.hid (fun (W : World) (b : Nat) => readI_calls K A0 c0 l0 gt de w hr0 hc0 hgt hde G kq 0 t (⟨#[]⟩ : ByteArray) 0 c n' out [] (.slice none 0 0) W b)
 have HV := Lib.hid hV
 have HND := Lib.hid hnd
 have hlen : c = 0 → out.length ≤ 20000 := fun hc => by
  have h1 := walkV_len G kq 0 t (⟨#[]⟩ : ByteArray) 0 n' out zq7 (by subst hc; exact hV)
  omega
 have HLEN := Lib.hid hlen
 clear hr0 hc0 hgt hde G hV hnd hlen
 have hu := Tryz.underlying104
 have huF := Tryz.underlying26
 by_cases hc : c = 0
 · subst hc
   have hln := HLEN.out rfl
   by_cases h60 : out.length > 60
   · have hev : endV (0, n', out) = (2, []) := by unfold endV; rw [if_pos rfl, if_pos h60]
     rw [hev]
     have h61 : (out.length : Int) > 60 := by omega
     have h62 : (60 : Int) < (out.length : Int) := by omega
     clear hev
     go_enter Tryz.func44, Tryz.ntmps44
     go_wp2_with (first | ((with_reducible refine gate_dst (N := 4) rfl ?_); refine box_event ?hg (N := 4) ?hd (cs := #[.int .i64 0, .slice none 0 0]) (t := 26) ?hr ?_; (case hd => rfl); (case hg => rfl); (case hr => first | (go_simp; done) | (go_simp; rfl)); intro gr hgr w1 hbox hb1; have HRB := Lib.hid hbox; have HB1 := Lib.hid hb1; have HGR := Lib.hid hgr; clear hbox hb1 hgr) | ((with_reducible refine gate_dst (N := 9) rfl ?_); refine box_event ?hg (N := 9) ?hd (cs := #[.slice A0 l0.length c0, .int .i64 0, .slice none 0 0]) (t := 104) ?hr ?_; (case hd => rfl); (case hg => rfl); (case hr => first | (go_simp; done) | (go_simp; rfl)); intro gw hgw w2 hbox hb2; have HWX := Lib.hid hbox; have HB2 := Lib.hid hb2; have HGW := Lib.hid hgw; clear hbox hb2 hgw) | (go_at_call 77; (refine (HRD.out w2 gw (HB1.out.trans (HB2.out.mono HB1.out.size)) (by have h1 := HB1.out.size; have h2 := HGW.out; omega) HWX.out (Kd.R_nil _ _ _ _ _) zq7 zq7 zq7 zq7 zq13 (by rw [List.length_nil]; omega) HV.out).mono ?_); rintro e w3 ⟨rfl, vg, hb3, ht3, hc3⟩; have B3 := Lib.hid hb3; have T3 := Lib.hid ht3; have hrr := (ht3.block gr (by have := HGR.out; have := HGW.out; have := HB2.out.size; have := (Array.getElem?_eq_some_iff.1 HRB.out).1; omega) (fun z => by have := (Array.getElem?_eq_some_iff.1 HRB.out).1; have := HGW.out; omega) (by simp [Value.ownBlock])).trans (blk_below HRB.out HB2.out); have z0 : w3.cell? ⟨gr, 0, none⟩ = some (.int .i64 0) := (blk_cell hrr 0).trans rfl; have z1 : w3.cell? ⟨gr, 1, none⟩ = some (.slice none 0 0) := (blk_cell hrr 1).trans rfl; have f0 := blk_frozen hrr 0; have f1 := blk_frozen hrr 1; have R9 := Lib.hid hrr; have BW3 := Lib.hid (show Below w.heap.size w w3 from below_two (HB1.out.trans (HB2.out.mono HB1.out.size)) ht3 (HB1.out.trans (HB2.out.mono HB1.out.size)).size (by have := HB1.out.size; have := HGW.out; omega) (by simp [Value.ownBlock])); have hr3 := (hc3 rfl).1; rw [List.nil_append] at hr3; obtain ⟨Ag, cg, rfl⟩ := Kd.R_slice hr3; have R3 := Lib.hid hr3; have y2 : w3.cell? ⟨gw, 2, none⟩ = some (.slice Ag out.length cg) := (blk_cell hb3 2).trans rfl; clear hb3 ht3 hc3 hrr hr3))
     have hgr : w.heap.size ≤ gr := Nat.le_of_eq HGR.out.symm
     refine bodyPost_ret (results_cell_row rfl _ _ gr 26 #[.int .i64 2, .slice none 0 0] (0, 0) _ rfl (blk_set (blk_set R9.out 0 (.int .i64 2)) 1 (.slice none 0 0)) Tryz.underlying26 rfl zq3) rfl ?_
     exact ⟨_, rfl, Kd.R_nil _ _ _ _ _, below_set (below_set BW3.out hgr) hgr⟩
   · have hev : endV (0, n', out) = (0, sortF out) := by unfold endV; rw [if_pos rfl, if_neg h60]
     rw [hev]
     have h61 : ¬ (out.length : Int) > 60 := by omega
     have h62 : ¬ (60 : Int) < (out.length : Int) := by omega
     clear hev
     go_enter Tryz.func44, Tryz.ntmps44
     go_wp2_with (first | ((with_reducible refine gate_dst (N := 4) rfl ?_); refine box_event ?hg (N := 4) ?hd (cs := #[.int .i64 0, .slice none 0 0]) (t := 26) ?hr ?_; (case hd => rfl); (case hg => rfl); (case hr => first | (go_simp; done) | (go_simp; rfl)); intro gr hgr w1 hbox hb1; have HRB := Lib.hid hbox; have HB1 := Lib.hid hb1; have HGR := Lib.hid hgr; clear hbox hb1 hgr) | ((with_reducible refine gate_dst (N := 9) rfl ?_); refine box_event ?hg (N := 9) ?hd (cs := #[.slice A0 l0.length c0, .int .i64 0, .slice none 0 0]) (t := 104) ?hr ?_; (case hd => rfl); (case hg => rfl); (case hr => first | (go_simp; done) | (go_simp; rfl)); intro gw hgw w2 hbox hb2; have HWX := Lib.hid hbox; have HB2 := Lib.hid hb2; have HGW := Lib.hid hgw; clear hbox hb2 hgw) | (go_at_call 77; (refine (HRD.out w2 gw (HB1.out.trans (HB2.out.mono HB1.out.size)) (by have h1 := HB1.out.size; have h2 := HGW.out; omega) HWX.out (Kd.R_nil _ _ _ _ _) zq7 zq7 zq7 zq7 zq13 (by rw [List.length_nil]; omega) HV.out).mono ?_); rintro e w3 ⟨rfl, vg, hb3, ht3, hc3⟩; have B3 := Lib.hid hb3; have T3 := Lib.hid ht3; have hrr := (ht3.block gr (by have := HGR.out; have := HGW.out; have := HB2.out.size; have := (Array.getElem?_eq_some_iff.1 HRB.out).1; omega) (fun z => by have := (Array.getElem?_eq_some_iff.1 HRB.out).1; have := HGW.out; omega) (by simp [Value.ownBlock])).trans (blk_below HRB.out HB2.out); have z0 : w3.cell? ⟨gr, 0, none⟩ = some (.int .i64 0) := (blk_cell hrr 0).trans rfl; have z1 : w3.cell? ⟨gr, 1, none⟩ = some (.slice none 0 0) := (blk_cell hrr 1).trans rfl; have f0 := blk_frozen hrr 0; have f1 := blk_frozen hrr 1; have R9 := Lib.hid hrr; have BW3 := Lib.hid (show Below w.heap.size w w3 from below_two (HB1.out.trans (HB2.out.mono HB1.out.size)) ht3 (HB1.out.trans (HB2.out.mono HB1.out.size)).size (by have := HB1.out.size; have := HGW.out; omega) (by simp [Value.ownBlock])); have hr3 := (hc3 rfl).1; rw [List.nil_append] at hr3; obtain ⟨Ag, cg, rfl⟩ := Kd.R_slice hr3; have R3 := Lib.hid hr3; have y2 : w3.cell? ⟨gw, 2, none⟩ = some (.slice Ag out.length cg) := (blk_cell hb3 2).trans rfl; clear hb3 ht3 hc3 hrr hr3) | (go_at_call 78; (refine (sort_files 79 litF_eg w3 w.heap.size (.slice Ag out.length cg) out R3.out zq7 HND.out (fun W x y => litF x y W)).mono ?_); rintro e w4 ⟨rfl, hr4, hb4, hk4, hs4⟩; have R4 := Lib.hid hr4; have BW4 := Lib.hid (hb4 w w.heap.size BW3.out (Nat.le_refl _)); have hne := Kd.R_ne R3.out B3.out zq13; have hnr := Kd.R_ne R3.out R9.out zq13; have b4 := (hk4 gw (Array.getElem?_eq_some_iff.1 B3.out).1 (fun z => hne z.symm)).trans B3.out; have r4 := (hk4 gr (Array.getElem?_eq_some_iff.1 R9.out).1 (fun z => hnr z.symm)).trans R9.out; have u2 : w4.cell? ⟨gw, 2, none⟩ = some (.slice Ag out.length cg) := (blk_cell b4 2).trans rfl; have t0 : w4.cell? ⟨gr, 0, none⟩ = some (.int .i64 0) := (blk_cell r4 0).trans rfl; have t1 : w4.cell? ⟨gr, 1, none⟩ = some (.slice none 0 0) := (blk_cell r4 1).trans rfl; have e0 := blk_frozen r4 0; have e1 := blk_frozen r4 1; have R94 := Lib.hid r4; clear hr4 hb4 hk4 hs4 hne hnr b4 r4 y2 z0 z1 f0 f1))
     have hgr : w.heap.size ≤ gr := Nat.le_of_eq HGR.out.symm
     refine bodyPost_ret (results_cell_row rfl _ _ gr 26 #[.int .i64 0, .slice Ag out.length cg] (0, 0) _ rfl (blk_set (blk_set R94.out 0 (.int .i64 0)) 1 (.slice Ag out.length cg)) Tryz.underlying26 rfl zq3) rfl ?_
     exact ⟨_, rfl, R_blk (R_blk R4.out R94.out zq13 0 _) (blk_set R94.out 0 (.int .i64 0)) zq13 1 _, below_set (below_set BW4.out hgr) hgr⟩
 · have hev : endV (c, n', out) = (c, []) := by unfold endV; rw [if_neg hc]
   rw [hev]
   clear hev
   go_enter Tryz.func44, Tryz.ntmps44
   go_wp2_with (first | ((with_reducible refine gate_dst (N := 4) rfl ?_); refine box_event ?hg (N := 4) ?hd (cs := #[.int .i64 0, .slice none 0 0]) (t := 26) ?hr ?_; (case hd => rfl); (case hg => rfl); (case hr => first | (go_simp; done) | (go_simp; rfl)); intro gr hgr w1 hbox hb1; have HRB := Lib.hid hbox; have HB1 := Lib.hid hb1; have HGR := Lib.hid hgr; clear hbox hb1 hgr) | ((with_reducible refine gate_dst (N := 9) rfl ?_); refine box_event ?hg (N := 9) ?hd (cs := #[.slice A0 l0.length c0, .int .i64 0, .slice none 0 0]) (t := 104) ?hr ?_; (case hd => rfl); (case hg => rfl); (case hr => first | (go_simp; done) | (go_simp; rfl)); intro gw hgw w2 hbox hb2; have HWX := Lib.hid hbox; have HB2 := Lib.hid hb2; have HGW := Lib.hid hgw; clear hbox hb2 hgw) | (go_at_call 77; (refine (HRD.out w2 gw (HB1.out.trans (HB2.out.mono HB1.out.size)) (by have h1 := HB1.out.size; have h2 := HGW.out; omega) HWX.out (Kd.R_nil _ _ _ _ _) zq7 zq7 zq7 zq7 zq13 (by rw [List.length_nil]; omega) HV.out).mono ?_); rintro e w3 ⟨rfl, vg, hb3, ht3, hc3⟩; have B3 := Lib.hid hb3; have T3 := Lib.hid ht3; have hrr := (ht3.block gr (by have := HGR.out; have := HGW.out; have := HB2.out.size; have := (Array.getElem?_eq_some_iff.1 HRB.out).1; omega) (fun z => by have := (Array.getElem?_eq_some_iff.1 HRB.out).1; have := HGW.out; omega) (by simp [Value.ownBlock])).trans (blk_below HRB.out HB2.out); have z0 : w3.cell? ⟨gr, 0, none⟩ = some (.int .i64 0) := (blk_cell hrr 0).trans rfl; have z1 : w3.cell? ⟨gr, 1, none⟩ = some (.slice none 0 0) := (blk_cell hrr 1).trans rfl; have f0 := blk_frozen hrr 0; have f1 := blk_frozen hrr 1; have R9 := Lib.hid hrr; have BW3 := Lib.hid (show Below w.heap.size w w3 from below_two (HB1.out.trans (HB2.out.mono HB1.out.size)) ht3 (HB1.out.trans (HB2.out.mono HB1.out.size)).size (by have := HB1.out.size; have := HGW.out; omega) (by simp [Value.ownBlock])); clear hb3 ht3 hc3 hrr))
   have hgr : w.heap.size ≤ gr := Nat.le_of_eq HGR.out.symm
   refine bodyPost_ret (results_cell_row rfl _ _ gr 26 #[.int .i64 c, .slice none 0 0] (0, 0) _ rfl (blk_set (blk_set R9.out 0 (.int .i64 c)) 1 (.slice none 0 0)) Tryz.underlying26 rfl zq3) rfl ?_
   exact ⟨_, rfl, Kd.R_nil _ _ _ _ _, below_set (below_set BW3.out hgr) hgr⟩
end Go.Proofs.YtkjgnnhpjcofiaaGreatDoor.PX.X

namespace Go.Proofs.YtkjgnnhpjcofiaaGreatDoor.PX.X
open Go Go.RowKit Go.Lib Go.Proofs.YtkjgnnhpjcofiaaGreatDoorW.PrintWords Go.Proofs.YtkjgnnhpjcofiaaGreatDoor.PX Go.Proofs.YtkjgnnhpjcofiaaGreatDoorX Go.Proofs.YtkjgnnhpjcofiaaGreatDoorX.TD
set_option linter.unusedVariables false
theorem readFI_calls (k : Nat) (A0 : Option Addr) (c0 : Nat) (l0 : List IObj) (t : ByteArray) (r1 : Int) (r2 : List FileT) (w : World) (hr0 : Kd.C k65 w A0 l0.length l0) (hc0 : l0.length ≤ c0) (h : readF k l0 t = some (r1, r2)) :
 Calls Tryz.prog 44 #[.slice A0 l0.length c0, .string t] w fun e w' => ∃ v, e = .returned (.agg #[.int .i64 r1, v]) ∧ Kd.R k75 75 w' w.heap.size (fun _ => True) v r2 ∧ Below w.heap.size w w' := by
 unfold readF at h
 by_cases hk : 9000000 < k ∧ okO l0
 · rw [if_pos hk] at h
   have hnd : ndG (gtI l0) deI = nodeV l0 := funext (ndI_eq hk.2)
   have hv := walkT_eq l0 t
   rw [← hnd] at hv
   have h2 := Option.some.inj h
   unfold readV at h2
   generalize walkT l0 t = q at hv h2
   obtain ⟨c, n', out⟩ := q
   have := filesI_calls k A0 c0 l0 (gtI l0) deI w hr0 hc0 (fun x => impl_getV l0 2 x (okO_rising hk.2) hk.2.1) (fun x hb => deI_all (get_sz hk.2 x hb) k hk.1) (hnd ▸ node_good l0) t 5 c n' out hv
   rw [h2] at this
   exact this
 · rw [if_neg hk] at h
   cases h
end Go.Proofs.YtkjgnnhpjcofiaaGreatDoor.PX.X

namespace Go.Proofs.YtkjgnnhpjcofiaaGreatDoor.PX
open Go.RowKit Go.Proofs.YtkjgnnhpjcofiaaGreatDoorW.PrintWords Go.Proofs.YtkjgnnhpjcofiaaGreatDoorW.PrintLast Go.Proofs.YtkjgnnhpjcofiaaGreatDoorW.PrintMore
attribute [local go_sem] max2_int min2_int max_two min_two max_three min_three max_four min_four   -- for this text's walks alone
set_option linter.unusedVariables false
set_option linter.unusedSimpArgs false
def impl_readFiles.f (k : Nat) (l0 : List (S65)) (a1 : ByteArray) : Option (Int × List X.FileT) := X.readF k l0 a1
theorem impl_readFiles.calls (k : Nat) (A0 : Option Addr) (c0 : Nat) (l0 : List (S65)) (a1 : ByteArray) (r1 : Int) (r2 : List X.FileT) (w : World) (hr0 : Kd.C k65 w A0 l0.length l0) (hc0 : l0.length ≤ c0) (h : impl_readFiles.f k l0 a1 = some (r1, r2)) :
  Calls Tryz.prog 44 #[.slice A0 l0.length c0, .string a1] w fun e w' => ∃ v1_ : Value, e = .returned (.agg #[.int .i64 r1, v1_]) ∧ Kd.R k75 75 w' w.heap.size (fun _ => True) v1_ r2 ∧ Below w.heap.size w w' := X.readFI_calls k A0 c0 l0 a1 r1 r2 w hr0 hc0 h
def impl_ReadFiles.f (k : Nat) (l0 : List (S65)) (a1 : ByteArray) : Option (Int × (List (S75))) := (impl_StoreFault.f k l0).bind fun t293 => (if t293 = 0 then ((impl_readFiles.f k l0 a1).bind fun bt294 => (some (bt294.1, bt294.2))) else (some (t293, ([] : List (S75)))))
set_option maxHeartbeats 8000000 in
set_option maxRecDepth 100000 in
theorem impl_ReadFiles.calls (k : Nat) (A0 : Option Addr) (c0 : Nat) (l0 : List (S65)) (a1 : ByteArray) (r1 : Int) (r2 : List (S75)) (w : World) (hr0 : Kd.C k65 w A0 l0.length l0) (hc0 : l0.length ≤ c0) (hG : Gt w) (h : impl_ReadFiles.f k l0 a1 = some (r1, r2)) :
  Calls Tryz.prog 11 #[.slice A0 l0.length c0, .string a1] w fun e w' => ∃ v1_ : Value, e = .returned (.agg #[.int .i64 r1, v1_]) ∧ Kd.R k75 75 w' w.heap.size (fun _ => True) v1_ r2 ∧ Below w.heap.size w w' := by
 have HG := zK hG
 clear hG
 have hu26 := Tryz.underlying26
 have HR0 := zK hr0
 have HC0 := zK hc0
 clear hr0 hc0
 have HB := zK (Below.refl w.heap.size w)
 have H : ((impl_StoreFault.f k l0).bind fun t293 => (if t293 = 0 then ((impl_readFiles.f k l0 a1).bind fun bt294 => (some (bt294.1, bt294.2))) else (some (t293, ([] : List (S75)))))) = some (r1, r2) := h
 clear h
 replace H := Option.bind_eq_some_iff.mp H
 obtain ⟨t293, A30, H⟩ := H
 replace H : (if t293 = 0 then ((impl_readFiles.f k l0 a1).bind fun bt294 => (some (bt294.1, bt294.2))) else (some (t293, ([] : List (S75))))) = some (r1, r2) := H
 have A3 := zK A30
 clear A30
 by_cases c4 : t293 = 0
 ·
  rw [if_pos c4] at H
  have c4b0 : (t293 == 0) = true := beq_iff_eq.mpr c4
  have c4b1 : (t293 != 0) = false := bne_eq_false_iff_eq.mpr c4
  clear c4
  replace H := Option.bind_eq_some_iff.mp H
  obtain ⟨⟨t294, t295⟩, A50, H⟩ := H
  replace H : (some (t294, t295)) = some (r1, r2) := H
  have A5 := zK A50
  clear A50
  simp only [Option.some.injEq, Prod.mk.injEq] at H
  obtain ⟨rfl, rfl⟩ := H
  go_enter Tryz.func11, Tryz.ntmps11
  go_wp2_with (first | ((with_reducible refine gate_dst (N := 4) rfl ?_); refine box_event ?hg (N := 4) ?hd (cs := #[.int .i64 0, .slice none 0 0]) (t := 26) ?hr ?_; (case hd => rfl); (case hg => rfl); (case hr => first | (go_simp; done) | (go_simp; rfl)); intro gb292 hg w6 hbox hb; have n0_ := zK (below_step zq0 hb); have n1_ := zK (hbox); have n2_ := zK ((by rw [hg]; exact (below_size zq0) : w.heap.size ≤ gb292)); have n3_ := zK ((by rw [hg]; exact (below_size zq0) : w.heap.size ≤ gb292)); clear HB; have HB := n0_; have BK292 := n1_; have GW292 := n2_; have GE292 := n3_; clear n0_ n1_ n2_ n3_; clear hb hbox hg) | ((with_reducible refine gate_callee (f := 43) rfl ?_); refine goesL_ (some 7) rfl rfl Tryz.func43 zq3 rfl #[.slice A0 l0.length c0] rfl zq1 ?_; (with_reducible refine (impl_StoreFault.calls k _ _ l0 t293 _ ?side1 ?side2 (Gt.below HG.out (by repeat (first | (with_reducible first | exact HB.out | apply zA | apply zN | apply zD | refine below_set ?_ GE292.out) | exact HB.out))) A3.out).mono ?_); (case side1 => repeat (first | exact (Kd.C_below HR0.out HB.out) | (with_reducible refine Kd.C_alloc ?_ _) | (with_reducible refine Kd.C_drewN ?_ _) | (with_reducible refine Kd.C_drew ?_))); (case side2 => exact HC0.out); rintro e w7 ⟨rfl, hb⟩; refine ⟨_, rfl, ?_⟩; have n0_ := zK (blk_below (g := gb292) (o := .cells #[.int .i64 0, .slice none 0 0] 26 (0, 0)) (by (with_reducible repeat (first | refine zM ?_ _ | refine zP ?_ | refine zQ ?_ _)); exact BK292.out) hb); have n1_ := zK (below_step (by repeat (first | (with_reducible first | exact HB.out | apply zA | apply zN | apply zD | refine below_set ?_ GE292.out) | exact HB.out)) hb); clear BK292; clear HB; have BK292 := n0_; have HB := n1_; clear n0_ n1_; (try clear hb); (try clear hb2); (try clear hk); (try clear hi)) | ((with_reducible refine gate_callee (f := 44) rfl ?_); refine goesL_ (some 14) rfl rfl Tryz.func44 zq3 rfl #[.slice A0 l0.length c0, .string a1] rfl zq1 ?_; (with_reducible refine (impl_readFiles.calls k _ _ l0 a1 t294 t295 _ ?side1 ?side2 A5.out).mono ?_); (case side1 => repeat (first | exact (Kd.C_below HR0.out HB.out) | (with_reducible refine Kd.C_alloc ?_ _) | (with_reducible refine Kd.C_drewN ?_ _) | (with_reducible refine Kd.C_drew ?_))); (case side2 => exact HC0.out); rintro e w8 ⟨v296, rfl, ho0, hb⟩; refine ⟨_, rfl, ?_⟩; have n0_ := zK (Kd.R_lower ho0 (below_size (by repeat (first | (with_reducible first | exact HB.out | apply zA | apply zN | apply zD | refine below_set ?_ GE292.out) | exact HB.out)))); have n1_ := zK (blk_below (g := gb292) (o := .cells #[.int .i64 0, .slice none 0 0] 26 (0, 0)) (by (with_reducible repeat (first | refine zM ?_ _ | refine zP ?_ | refine zQ ?_ _)); exact BK292.out) hb); have n2_ := zK (below_step (by repeat (first | (with_reducible first | exact HB.out | apply zA | apply zN | apply zD | refine below_set ?_ GE292.out) | exact HB.out)) hb); clear BK292; clear HB; have HO297 := n0_; have BK292 := n1_; have HB := n2_; clear n0_ n1_ n2_; (try clear hb); (try clear hb2); (try clear hk); (try clear hi); (try clear ho0); have hcz9_0 : w8.cell? ⟨gb292, 0, none⟩ = some (.int .i64 0) := (blk_cell BK292.out 0).trans rfl; have hcz9_1 : w8.cell? ⟨gb292, 1, none⟩ = some (.slice none 0 0) := (blk_cell BK292.out 1).trans rfl; have hfz9_0 := blk_frozen BK292.out 0; have hfz9_1 := blk_frozen BK292.out 1; obtain ⟨Ao10, co10, eo10⟩ := Kd.R_slice HO297.out; subst eo10))
  refine bodyPost_ret (results_cell_row rfl _ _ gb292 26 #[.int .i64 t294, .slice Ao10 t295.length co10] (0, 0) _ rfl (by (with_reducible repeat (first | refine zM ?_ _ | refine zP ?_ | refine zQ ?_ _)); refine blk_put (cs := #[.int .i64 t294, .slice none 0 0]) ?_ 1 _ rfl; (with_reducible repeat (first | refine zM ?_ _ | refine zP ?_ | refine zQ ?_ _)); refine blk_put (cs := #[.int .i64 0, .slice none 0 0]) ?_ 0 _ rfl; (with_reducible repeat (first | refine zM ?_ _ | refine zP ?_ | refine zQ ?_ _)); exact BK292.out) Tryz.underlying26 rfl zq3) rfl ?_
  exact ⟨_, zq5, (by (with_reducible repeat (first | apply zR | apply zV | apply zW)); exact Kd.R_mono (Kd.R_far (p := ⟨gb292, 1, none⟩) (Kd.R_far (p := ⟨gb292, 0, none⟩) (Kd.R_types HO297.out BK292.out zq13) (fun _ hk => hk.2) (.int .i64 t294)) (fun _ hk => hk.2) (.slice Ao10 t295.length co10)) (fun _ hk => trivial)), (by repeat (first | (with_reducible first | exact HB.out | apply zA | apply zN | apply zD | refine below_set ?_ GE292.out) | exact HB.out))⟩
 rw [if_neg c4] at H
 have c4b0 : (t293 == 0) = false := beq_eq_false_iff_ne.mpr c4
 have c4b1 : (t293 != 0) = true := bne_iff_ne.mpr c4
 simp only [Option.some.injEq, Prod.mk.injEq] at H
 obtain ⟨rfl, rfl⟩ := H
 go_enter Tryz.func11, Tryz.ntmps11
 go_wp2_with (first | ((with_reducible refine gate_dst (N := 4) rfl ?_); refine box_event ?hg (N := 4) ?hd (cs := #[.int .i64 0, .slice none 0 0]) (t := 26) ?hr ?_; (case hd => rfl); (case hg => rfl); (case hr => first | (go_simp; done) | (go_simp; rfl)); intro gb292 hg w11 hbox hb; have n0_ := zK (below_step zq0 hb); have n1_ := zK (hbox); have n2_ := zK ((by rw [hg]; exact (below_size zq0) : w.heap.size ≤ gb292)); have n3_ := zK ((by rw [hg]; exact (below_size zq0) : w.heap.size ≤ gb292)); clear HB; have HB := n0_; have BK292 := n1_; have GW292 := n2_; have GE292 := n3_; clear n0_ n1_ n2_ n3_; clear hb hbox hg) | ((with_reducible refine gate_callee (f := 43) rfl ?_); refine goesL_ (some 7) rfl rfl Tryz.func43 zq3 rfl #[.slice A0 l0.length c0] rfl zq1 ?_; (with_reducible refine (impl_StoreFault.calls k _ _ l0 t293 _ ?side1 ?side2 (Gt.below HG.out (by repeat (first | (with_reducible first | exact HB.out | apply zA | apply zN | apply zD | refine below_set ?_ GE292.out) | exact HB.out))) A3.out).mono ?_); (case side1 => repeat (first | exact (Kd.C_below HR0.out HB.out) | (with_reducible refine Kd.C_alloc ?_ _) | (with_reducible refine Kd.C_drewN ?_ _) | (with_reducible refine Kd.C_drew ?_))); (case side2 => exact HC0.out); rintro e w12 ⟨rfl, hb⟩; refine ⟨_, rfl, ?_⟩; have n0_ := zK (blk_below (g := gb292) (o := .cells #[.int .i64 0, .slice none 0 0] 26 (0, 0)) (by (with_reducible repeat (first | refine zM ?_ _ | refine zP ?_ | refine zQ ?_ _)); exact BK292.out) hb); have n1_ := zK (below_step (by repeat (first | (with_reducible first | exact HB.out | apply zA | apply zN | apply zD | refine below_set ?_ GE292.out) | exact HB.out)) hb); clear BK292; clear HB; have BK292 := n0_; have HB := n1_; clear n0_ n1_; (try clear hb); (try clear hb2); (try clear hk); (try clear hi); have hcz13_0 : w12.cell? ⟨gb292, 0, none⟩ = some (.int .i64 0) := (blk_cell BK292.out 0).trans rfl; have hcz13_1 : w12.cell? ⟨gb292, 1, none⟩ = some (.slice none 0 0) := (blk_cell BK292.out 1).trans rfl; have hfz13_0 := blk_frozen BK292.out 0; have hfz13_1 := blk_frozen BK292.out 1))
 refine bodyPost_ret (results_cell_row rfl _ _ gb292 26 #[.int .i64 t293, .slice none 0 0] (0, 0) _ rfl (by (with_reducible repeat (first | refine zM ?_ _ | refine zP ?_ | refine zQ ?_ _)); refine blk_put (cs := #[.int .i64 t293, .slice none 0 0]) ?_ 1 _ rfl; (with_reducible repeat (first | refine zM ?_ _ | refine zP ?_ | refine zQ ?_ _)); refine blk_put (cs := #[.int .i64 0, .slice none 0 0]) ?_ 0 _ rfl; (with_reducible repeat (first | refine zM ?_ _ | refine zP ?_ | refine zQ ?_ _)); exact BK292.out) Tryz.underlying26 rfl zq3) rfl ?_
 exact ⟨_, zq5, zq20, (by repeat (first | (with_reducible first | exact HB.out | apply zA | apply zN | apply zD | refine below_set ?_ GE292.out) | exact HB.out))⟩
def laws_FnExactReadFiles.j0 : Nat → List (S61) → ByteArray → Bool → Int → List (S75) → Int → List (S75) → Option (Bool)
 | 0, _, _, _, _, _, _, _ => none
 | k + 1, x0, x1, x49, x343000, x343001, x351000, x351001 => if x49 = true then (some false) else ((laws_markFilesResult.f k x351000 x351001 1).bind fun bt359 => ((laws_heldFilesResult.f k x351000 bt359.2 1).bind fun t361 => (if t361 < 0 then (some false) else (if t361 = bt359.1 then ((laws_toObjectS.f k x0).bind fun t362 => ((impl_ReadFiles.f k t362 x1).bind fun bt365 => ((laws_eqFilesResult.f k bt365.1 bt365.2 x343000 x343001).bind fun t370 => (if t370 = true then ((laws_heldFilesResult.f k x351000 bt359.2 1).bind fun t371 => (if t371 < 0 then (some false) else (if t371 = bt359.1 then (some true) else (some false)))) else (some false))))) else (some false)))))
def laws_FnExactReadFiles.f (k : Nat) (l0 : List (S61)) (a1 : ByteArray) : Option (Bool) := if (a1.size : Int) > 1048576 then (some true) else ((laws_szObjectS.f k l0 1048576).bind fun t334 => (if t334 < 0 then (some true) else ((laws_toObjectS.f k l0).bind fun t335 => ((spec_ReadFiles.f k t335 a1).bind fun bt338 => ((laws_toObjectS.f k l0).bind fun t343 => ((impl_ReadFiles.f k t343 a1).bind fun bt346 => ((laws_eqFilesResult.f k bt346.1 bt346.2 bt338.1 bt338.2).bind fun t351 => (if t351 = true then ((laws_toObjectS.f k l0).bind fun t352 => ((laws_eqObjectS.f k t343 t352).bind fun t355 => (if t355 = true then ((laws_markObjectS.f k t343 1).bind fun bt356 => (if bt356.1 < 0 then (laws_FnExactReadFiles.j0 k l0 a1 true bt338.1 bt338.2 bt346.1 bt346.2) else ((laws_eqFilesResult.f k bt346.1 bt346.2 bt338.1 bt338.2).bind fun t358 => (laws_FnExactReadFiles.j0 k l0 a1 (!t358) bt338.1 bt338.2 bt346.1 bt346.2)))) else (some false)))) else (some false)))))))))
set_option maxHeartbeats 8000000 in
set_option maxRecDepth 100000 in
theorem laws_FnExactReadFiles.calls (k : Nat) (A0 : Option Addr) (c0 : Nat) (l0 : List (S61)) (a1 : ByteArray) (r : Bool) (w : World) (hr0 : Kd.C k61 w A0 l0.length l0) (hc0 : l0.length ≤ c0) (hG : Gt w) (h : laws_FnExactReadFiles.f k l0 a1 = some r) (hT_ : r = true := by rfl) :
  Calls Tryz.prog 3 #[.slice A0 l0.length c0, .string a1] w fun e w' => e = .returned (.bool r) ∧ Below w.heap.size w w' := by
 have HG := zK hG
 clear hG
 have hu26 := Tryz.underlying26
 have HR0 := zK hr0
 have HC0 := zK hc0
 clear hr0 hc0
 have HB := zK (Below.refl w.heap.size w)
 have H : (if (a1.size : Int) > 1048576 then (some true) else ((laws_szObjectS.f k l0 1048576).bind fun t334 => (if t334 < 0 then (some true) else ((laws_toObjectS.f k l0).bind fun t335 => ((spec_ReadFiles.f k t335 a1).bind fun bt338 => ((laws_toObjectS.f k l0).bind fun t343 => ((impl_ReadFiles.f k t343 a1).bind fun bt346 => ((laws_eqFilesResult.f k bt346.1 bt346.2 bt338.1 bt338.2).bind fun t351 => (if t351 = true then ((laws_toObjectS.f k l0).bind fun t352 => ((laws_eqObjectS.f k t343 t352).bind fun t355 => (if t355 = true then ((laws_markObjectS.f k t343 1).bind fun bt356 => (if bt356.1 < 0 then (laws_FnExactReadFiles.j0 k l0 a1 true bt338.1 bt338.2 bt346.1 bt346.2) else ((laws_eqFilesResult.f k bt346.1 bt346.2 bt338.1 bt338.2).bind fun t358 => (laws_FnExactReadFiles.j0 k l0 a1 (!t358) bt338.1 bt338.2 bt346.1 bt346.2)))) else (some false)))) else (some false)))))))))) = some r := h
 clear h
 by_cases c3 : (a1.size : Int) > 1048576
 ·
  rw [if_pos c3] at H
  have c3b0 : decide (1048576 < (a1.size : Int)) = true := decide_eq_true c3
  have c3b1 : decide (1048576 < a1.size) = true := decide_eq_true zq7
  clear c3
  obtain rfl := Option.some.inj H
  go_enter Tryz.func3, Tryz.ntmps3
  go_wp2
  go_ret
  exact ⟨zq5, zq0⟩
 rw [if_neg c3] at H
 have c3b0 : decide (1048576 < (a1.size : Int)) = false := decide_eq_false c3
 have c3b1 : decide (1048576 < a1.size) = false := decide_eq_false zq7
 clear c3
 replace H := Option.bind_eq_some_iff.mp H
 obtain ⟨t334, A40, H⟩ := H
 replace H : (if t334 < 0 then (some true) else ((laws_toObjectS.f k l0).bind fun t335 => ((spec_ReadFiles.f k t335 a1).bind fun bt338 => ((laws_toObjectS.f k l0).bind fun t343 => ((impl_ReadFiles.f k t343 a1).bind fun bt346 => ((laws_eqFilesResult.f k bt346.1 bt346.2 bt338.1 bt338.2).bind fun t351 => (if t351 = true then ((laws_toObjectS.f k l0).bind fun t352 => ((laws_eqObjectS.f k t343 t352).bind fun t355 => (if t355 = true then ((laws_markObjectS.f k t343 1).bind fun bt356 => (if bt356.1 < 0 then (laws_FnExactReadFiles.j0 k l0 a1 true bt338.1 bt338.2 bt346.1 bt346.2) else ((laws_eqFilesResult.f k bt346.1 bt346.2 bt338.1 bt338.2).bind fun t358 => (laws_FnExactReadFiles.j0 k l0 a1 (!t358) bt338.1 bt338.2 bt346.1 bt346.2)))) else (some false)))) else (some false)))))))) = some r := H
 have A4 := zK A40
 clear A40
 by_cases c5 : t334 < 0
 ·
  rw [if_pos c5] at H
  have c5b0 : decide (t334 < 0) = true := decide_eq_true c5
  clear c5
  obtain rfl := Option.some.inj H
  go_enter Tryz.func3, Tryz.ntmps3
  go_wp2_with (first | ((with_reducible refine gate_callee (f := 8) rfl ?_); refine goesL_ (some 18) rfl rfl Tryz.func8 zq3 rfl #[.slice A0 l0.length c0, .int .i64 1048576] rfl zq1 ?_; (with_reducible refine (laws_szObjectS.calls k _ _ l0 1048576 t334 _ ?side1 ?side2 A4.out).mono ?_); (case side1 => repeat (first | exact HR0.out | (with_reducible refine Kd.C_alloc ?_ _) | (with_reducible refine Kd.C_drewN ?_ _) | (with_reducible refine Kd.C_drew ?_))); (case side2 => exact HC0.out); rintro e w6 ⟨rfl, hb⟩; refine ⟨_, rfl, ?_⟩; have n0_ := zK (below_step zq0 hb); clear HB; have HB := n0_; clear n0_; (try clear hb); (try clear hb2); (try clear hk); (try clear hi)))
  go_ret
  exact ⟨zq5, zq0⟩
 rw [if_neg c5] at H
 have c5b0 : decide (t334 < 0) = false := decide_eq_false c5
 clear c5
 replace H := Option.bind_eq_some_iff.mp H
 obtain ⟨t335, A70, H⟩ := H
 replace H : ((spec_ReadFiles.f k t335 a1).bind fun bt338 => ((laws_toObjectS.f k l0).bind fun t343 => ((impl_ReadFiles.f k t343 a1).bind fun bt346 => ((laws_eqFilesResult.f k bt346.1 bt346.2 bt338.1 bt338.2).bind fun t351 => (if t351 = true then ((laws_toObjectS.f k l0).bind fun t352 => ((laws_eqObjectS.f k t343 t352).bind fun t355 => (if t355 = true then ((laws_markObjectS.f k t343 1).bind fun bt356 => (if bt356.1 < 0 then (laws_FnExactReadFiles.j0 k l0 a1 true bt338.1 bt338.2 bt346.1 bt346.2) else ((laws_eqFilesResult.f k bt346.1 bt346.2 bt338.1 bt338.2).bind fun t358 => (laws_FnExactReadFiles.j0 k l0 a1 (!t358) bt338.1 bt338.2 bt346.1 bt346.2)))) else (some false)))) else (some false)))))) = some r := H
 have A7 := zK A70
 clear A70
 replace H := Option.bind_eq_some_iff.mp H
 obtain ⟨⟨t338, t339⟩, A80, H⟩ := H
 replace H : ((laws_toObjectS.f k l0).bind fun t343 => ((impl_ReadFiles.f k t343 a1).bind fun bt346 => ((laws_eqFilesResult.f k bt346.1 bt346.2 t338 t339).bind fun t351 => (if t351 = true then ((laws_toObjectS.f k l0).bind fun t352 => ((laws_eqObjectS.f k t343 t352).bind fun t355 => (if t355 = true then ((laws_markObjectS.f k t343 1).bind fun bt356 => (if bt356.1 < 0 then (laws_FnExactReadFiles.j0 k l0 a1 true t338 t339 bt346.1 bt346.2) else ((laws_eqFilesResult.f k bt346.1 bt346.2 t338 t339).bind fun t358 => (laws_FnExactReadFiles.j0 k l0 a1 (!t358) t338 t339 bt346.1 bt346.2)))) else (some false)))) else (some false))))) = some r := H
 have A8 := zK A80
 clear A80
 replace H := Option.bind_eq_some_iff.mp H
 obtain ⟨t343, A90, H⟩ := H
 replace H : ((impl_ReadFiles.f k t343 a1).bind fun bt346 => ((laws_eqFilesResult.f k bt346.1 bt346.2 t338 t339).bind fun t351 => (if t351 = true then ((laws_toObjectS.f k l0).bind fun t352 => ((laws_eqObjectS.f k t343 t352).bind fun t355 => (if t355 = true then ((laws_markObjectS.f k t343 1).bind fun bt356 => (if bt356.1 < 0 then (laws_FnExactReadFiles.j0 k l0 a1 true t338 t339 bt346.1 bt346.2) else ((laws_eqFilesResult.f k bt346.1 bt346.2 t338 t339).bind fun t358 => (laws_FnExactReadFiles.j0 k l0 a1 (!t358) t338 t339 bt346.1 bt346.2)))) else (some false)))) else (some false)))) = some r := H
 have A9 := zK A90
 clear A90
 replace H := Option.bind_eq_some_iff.mp H
 obtain ⟨⟨t346, t347⟩, A100, H⟩ := H
 replace H : ((laws_eqFilesResult.f k t346 t347 t338 t339).bind fun t351 => (if t351 = true then ((laws_toObjectS.f k l0).bind fun t352 => ((laws_eqObjectS.f k t343 t352).bind fun t355 => (if t355 = true then ((laws_markObjectS.f k t343 1).bind fun bt356 => (if bt356.1 < 0 then (laws_FnExactReadFiles.j0 k l0 a1 true t338 t339 t346 t347) else ((laws_eqFilesResult.f k t346 t347 t338 t339).bind fun t358 => (laws_FnExactReadFiles.j0 k l0 a1 (!t358) t338 t339 t346 t347)))) else (some false)))) else (some false))) = some r := H
 have A10 := zK A100
 clear A100
 replace H := Option.bind_eq_some_iff.mp H
 obtain ⟨t351, A110, H⟩ := H
 replace H : (if t351 = true then ((laws_toObjectS.f k l0).bind fun t352 => ((laws_eqObjectS.f k t343 t352).bind fun t355 => (if t355 = true then ((laws_markObjectS.f k t343 1).bind fun bt356 => (if bt356.1 < 0 then (laws_FnExactReadFiles.j0 k l0 a1 true t338 t339 t346 t347) else ((laws_eqFilesResult.f k t346 t347 t338 t339).bind fun t358 => (laws_FnExactReadFiles.j0 k l0 a1 (!t358) t338 t339 t346 t347)))) else (some false)))) else (some false)) = some r := H
 have A11 := zK A110
 clear A110
 by_cases c12 : t351 = true
 ·
  subst c12
  have H1 : ((laws_toObjectS.f k l0).bind fun t352 => ((laws_eqObjectS.f k t343 t352).bind fun t355 => (if t355 = true then ((laws_markObjectS.f k t343 1).bind fun bt356 => (if bt356.1 < 0 then (laws_FnExactReadFiles.j0 k l0 a1 true t338 t339 t346 t347) else ((laws_eqFilesResult.f k t346 t347 t338 t339).bind fun t358 => (laws_FnExactReadFiles.j0 k l0 a1 (!t358) t338 t339 t346 t347)))) else (some false)))) = some r := by rw [if_pos rfl] at H; exact H
  clear H
  have H := H1
  clear H1
  replace H := Option.bind_eq_some_iff.mp H
  obtain ⟨t352, A130, H⟩ := H
  replace H : ((laws_eqObjectS.f k t343 t352).bind fun t355 => (if t355 = true then ((laws_markObjectS.f k t343 1).bind fun bt356 => (if bt356.1 < 0 then (laws_FnExactReadFiles.j0 k l0 a1 true t338 t339 t346 t347) else ((laws_eqFilesResult.f k t346 t347 t338 t339).bind fun t358 => (laws_FnExactReadFiles.j0 k l0 a1 (!t358) t338 t339 t346 t347)))) else (some false))) = some r := H
  have A13 := zK A130
  clear A130
  replace H := Option.bind_eq_some_iff.mp H
  obtain ⟨t355, A140, H⟩ := H
  replace H : (if t355 = true then ((laws_markObjectS.f k t343 1).bind fun bt356 => (if bt356.1 < 0 then (laws_FnExactReadFiles.j0 k l0 a1 true t338 t339 t346 t347) else ((laws_eqFilesResult.f k t346 t347 t338 t339).bind fun t358 => (laws_FnExactReadFiles.j0 k l0 a1 (!t358) t338 t339 t346 t347)))) else (some false)) = some r := H
  have A14 := zK A140
  clear A140
  by_cases c15 : t355 = true
  ·
   subst c15
   have H1 : ((laws_markObjectS.f k t343 1).bind fun bt356 => (if bt356.1 < 0 then (laws_FnExactReadFiles.j0 k l0 a1 true t338 t339 t346 t347) else ((laws_eqFilesResult.f k t346 t347 t338 t339).bind fun t358 => (laws_FnExactReadFiles.j0 k l0 a1 (!t358) t338 t339 t346 t347)))) = some r := by rw [if_pos rfl] at H; exact H
   clear H
   have H := H1
   clear H1
   replace H := Option.bind_eq_some_iff.mp H
   obtain ⟨⟨t356, t357⟩, A160, H⟩ := H
   replace H : (if t356 < 0 then (laws_FnExactReadFiles.j0 k l0 a1 true t338 t339 t346 t347) else ((laws_eqFilesResult.f k t346 t347 t338 t339).bind fun t358 => (laws_FnExactReadFiles.j0 k l0 a1 (!t358) t338 t339 t346 t347))) = some r := H
   have A16 := zK A160
   clear A160
   have HC17 := zK H
   clear H
   go_enter Tryz.func3, Tryz.ntmps3
   go_upto_region 16 with (first | ((with_reducible refine gate_callee (f := 8) rfl ?_); refine goesL_ (some 18) rfl rfl Tryz.func8 zq3 rfl #[.slice A0 l0.length c0, .int .i64 1048576] rfl zq1 ?_; (with_reducible refine (laws_szObjectS.calls k _ _ l0 1048576 t334 _ ?side1 ?side2 A4.out).mono ?_); (case side1 => repeat (first | exact HR0.out | (with_reducible refine Kd.C_alloc ?_ _) | (with_reducible refine Kd.C_drewN ?_ _) | (with_reducible refine Kd.C_drew ?_))); (case side2 => exact HC0.out); rintro e w18 ⟨rfl, hb⟩; refine ⟨_, rfl, ?_⟩; have n0_ := zK (below_step zq0 hb); clear HB; have HB := n0_; clear n0_; (try clear hb); (try clear hb2); (try clear hk); (try clear hi)) | ((with_reducible refine gate_callee (f := 10) rfl ?_); refine goesL_ (some 22) rfl rfl Tryz.func10 zq3 rfl #[.slice A0 l0.length c0] rfl zq1 ?_; (with_reducible refine (laws_toObjectS.calls k _ _ l0 t335 _ ?side1 ?side2 A7.out).mono ?_); (case side1 => repeat (first | exact (Kd.C_below HR0.out HB.out) | (with_reducible refine Kd.C_alloc ?_ _) | (with_reducible refine Kd.C_drewN ?_ _) | (with_reducible refine Kd.C_drew ?_))); (case side2 => exact HC0.out); rintro e w19 ⟨v336, rfl, ho0, hb⟩; refine ⟨_, rfl, ?_⟩; have n0_ := zK (Kd.R_lower ho0 (below_size zq0)); have n1_ := zK (below_step zq0 hb); clear HB; have HO337 := n0_; have HB := n1_; clear n0_ n1_; (try clear hb); (try clear hb2); (try clear hk); (try clear hi); (try clear ho0); obtain ⟨Ao20, co20, eo20⟩ := Kd.R_slice HO337.out; subst eo20) | ((with_reducible refine gate_callee (f := 9) rfl ?_); refine goesL_ (some 24) rfl rfl Tryz.func9 zq3 rfl #[.slice Ao20 t335.length co20, .string a1] rfl zq1 ?_; (with_reducible refine (spec_ReadFiles.calls k _ _ t335 a1 t338 t339 _ ?side1 ?side2 A8.out).mono ?_); (case side1 => repeat (first | exact (Kd.R_reads' HO337.out).2.2 | (with_reducible refine Kd.C_alloc ?_ _) | (with_reducible refine Kd.C_drewN ?_ _) | (with_reducible refine Kd.C_drew ?_))); (case side2 => exact (Kd.R_reads' HO337.out).2.1); rintro e w21 ⟨v340, rfl, ho0, hb⟩; refine ⟨_, rfl, ?_⟩; have n0_ := zK (Kd.R_below zq19 hb); have n1_ := zK (Kd.R_lower ho0 (below_size zq0)); have n2_ := zK (below_step zq0 hb); clear HO337; clear HB; have HO337 := n0_; have HO341 := n1_; have HB := n2_; clear n0_ n1_ n2_; (try clear hb); (try clear hb2); (try clear hk); (try clear hi); (try clear ho0)) | ((with_reducible refine gate_dst (N := 6) rfl ?_); refine box_event ?hg (N := 6) ?hd (cs := #[.int .i64 0, .slice none 0 0]) (t := 26) ?hr ?_; (case hd => rfl); (case hg => rfl); (case hr => first | (go_simp; done) | (go_simp; rfl)); intro gb342 hg w22 hbox hb; have n0_ := zK (Kd.R_below zq19 hb); have n1_ := zK (Kd.R_below zq21 hb); have n2_ := zK (below_step zq0 hb); have n3_ := zK (hbox); have n4_ := zK ((by rw [hg]; exact (below_size zq0) : w.heap.size ≤ gb342)); have n5_ := zK ((by rw [hg]; exact (below_size zq0) : w.heap.size ≤ gb342)); clear HO337; clear HO341; clear HB; have HO337 := n0_; have HO341 := n1_; have HB := n2_; have BK342 := n3_; have GW342 := n4_; have GE342 := n5_; clear n0_ n1_ n2_ n3_ n4_ n5_; clear hb hbox hg; have hcz23_0 : w22.cell? ⟨gb342, 0, none⟩ = some (.int .i64 0) := (blk_cell BK342.out 0).trans rfl; have hcz23_1 : w22.cell? ⟨gb342, 1, none⟩ = some (.slice none 0 0) := (blk_cell BK342.out 1).trans rfl; have hfz23_0 := blk_frozen BK342.out 0; have hfz23_1 := blk_frozen BK342.out 1; obtain ⟨Ao24, co24, eo24⟩ := Kd.R_slice HO341.out; subst eo24) | ((with_reducible refine gate_callee (f := 10) rfl ?_); refine goesL_ (some 26) rfl rfl Tryz.func10 zq3 rfl #[.slice A0 l0.length c0] rfl zq1 ?_; (with_reducible refine (laws_toObjectS.calls k _ _ l0 t343 _ ?side1 ?side2 A9.out).mono ?_); (case side1 => exact Kd.C_below HR0.out (by repeat (first | (with_reducible first | exact HB.out | apply zA | apply zN | apply zD | refine below_set ?_ GE342.out) | exact HB.out))); (case side2 => exact HC0.out); rintro e w25 ⟨v344, rfl, ho0, hb⟩; refine ⟨_, rfl, ?_⟩; have n0_ := zK (Kd.R_elder' (by (with_reducible repeat (first | apply zR | apply zV | apply zW)); exact (Kd.R_mono (Kd.R_far (p := ⟨gb342, 1, none⟩) (Kd.R_far (p := ⟨gb342, 0, none⟩) (Kd.R_types HO337.out BK342.out zq13) (fun _ hk => hk.2) (.int .i64 t338)) (fun _ hk => hk.2) (.slice Ao24 t339.length co24)) (fun _ h_ => h_.1))) (Kd.R_base ho0) hb); have n1_ := zK (Kd.R_below (by (with_reducible repeat (first | apply zR | apply zV | apply zW)); exact (Kd.R_mono (Kd.R_far (p := ⟨gb342, 1, none⟩) (Kd.R_far (p := ⟨gb342, 0, none⟩) (Kd.R_types HO341.out BK342.out zq13) (fun _ hk => hk.2) (.int .i64 t338)) (fun _ hk => hk.2) (.slice Ao24 t339.length co24)) (fun _ h_ => h_.1))) hb); have n2_ := zK (Kd.R_lower (Kd.R_new' ho0 (Kd.R_lt (by (with_reducible repeat (first | apply zR | apply zV | apply zW)); exact (Kd.R_mono (Kd.R_far (p := ⟨gb342, 1, none⟩) (Kd.R_far (p := ⟨gb342, 0, none⟩) (Kd.R_types HO337.out BK342.out zq13) (fun _ hk => hk.2) (.int .i64 t338)) (fun _ hk => hk.2) (.slice Ao24 t339.length co24)) (fun _ h_ => h_.1))))) (below_size (by repeat (first | (with_reducible first | exact HB.out | apply zA | apply zN | apply zD | refine below_set ?_ GE342.out) | exact HB.out)))); have n3_ := zK (blk_below (g := gb342) (o := .cells #[.int .i64 t338, .slice Ao24 t339.length co24] 26 (0, 0)) (by (with_reducible repeat (first | refine zM ?_ _ | refine zP ?_ | refine zQ ?_ _)); refine blk_put (cs := #[.int .i64 t338, .slice none 0 0]) ?_ 1 _ rfl; (with_reducible repeat (first | refine zM ?_ _ | refine zP ?_ | refine zQ ?_ _)); refine blk_put (cs := #[.int .i64 0, .slice none 0 0]) ?_ 0 _ rfl; (with_reducible repeat (first | refine zM ?_ _ | refine zP ?_ | refine zQ ?_ _)); exact BK342.out) hb); have n4_ := zK (below_step (by repeat (first | (with_reducible first | exact HB.out | apply zA | apply zN | apply zD | refine below_set ?_ GE342.out) | exact HB.out)) hb); clear HO337; clear HO341; clear BK342; clear HB; have HO337 := n0_; have HO341 := n1_; have HO345 := n2_; have BK342 := n3_; have HB := n4_; clear n0_ n1_ n2_ n3_ n4_; (try clear hb); (try clear hb2); (try clear hk); (try clear hi); (try clear ho0); obtain ⟨Ao26, co26, eo26⟩ := Kd.R_slice HO345.out; subst eo26) | ((with_reducible refine gate_callee (f := 11) rfl ?_); refine goesL_ (some 29) rfl rfl Tryz.func11 zq3 rfl #[.slice Ao26 t343.length co26, .string a1] rfl zq1 ?_; (with_reducible refine (impl_ReadFiles.calls k _ _ t343 a1 t346 t347 _ ?side1 ?side2 (Gt.below HG.out (by repeat (first | (with_reducible first | exact HB.out | apply zA | apply zN | apply zD | refine below_set ?_ GE342.out) | exact HB.out))) A10.out).mono ?_); (case side1 => repeat (first | exact (Kd.R_reads' HO345.out).2.2 | (with_reducible refine Kd.C_alloc ?_ _) | (with_reducible refine Kd.C_drewN ?_ _) | (with_reducible refine Kd.C_drew ?_))); (case side2 => exact (Kd.R_reads' HO345.out).2.1); rintro e w27 ⟨v348, rfl, ho0, hb⟩; refine ⟨_, rfl, ?_⟩; have n0_ := zK (Kd.R_below zq19 hb); have n1_ := zK (Kd.R_elder' zq21 (Kd.R_base ho0) hb); have n2_ := zK (Kd.R_below zq24 hb); have n3_ := zK (Kd.R_lower (Kd.R_new' ho0 (Kd.R_lt zq21)) (below_size (by repeat (first | (with_reducible first | exact HB.out | apply zA | apply zN | apply zD | refine below_set ?_ GE342.out) | exact HB.out)))); have n4_ := zK (blk_below (g := gb342) (o := .cells #[.int .i64 t338, .slice Ao24 t339.length co24] 26 (0, 0)) (by (with_reducible repeat (first | refine zM ?_ _ | refine zP ?_ | refine zQ ?_ _)); exact BK342.out) hb); have n5_ := zK (below_step (by repeat (first | (with_reducible first | exact HB.out | apply zA | apply zN | apply zD | refine below_set ?_ GE342.out) | exact HB.out)) hb); clear HO337; clear HO341; clear HO345; clear BK342; clear HB; have HO337 := n0_; have HO341 := n1_; have HO345 := n2_; have HO349 := n3_; have BK342 := n4_; have HB := n5_; clear n0_ n1_ n2_ n3_ n4_ n5_; (try clear hb); (try clear hb2); (try clear hk); (try clear hi); (try clear ho0)) | ((with_reducible refine gate_dst (N := 8) rfl ?_); refine box_event ?hg (N := 8) ?hd (cs := #[.int .i64 0, .slice none 0 0]) (t := 26) ?hr ?_; (case hd => rfl); (case hg => rfl); (case hr => first | (go_simp; done) | (go_simp; rfl)); intro gb350 hg w28 hbox hb; have n0_ := zK (Kd.R_below zq19 hb); have n1_ := zK (Kd.R_below zq21 hb); have n2_ := zK (Kd.R_below zq24 hb); have n3_ := zK (Kd.R_below zq26 hb); have n4_ := zK (blk_below (g := gb342) (o := .cells #[.int .i64 t338, .slice Ao24 t339.length co24] 26 (0, 0)) (by (with_reducible repeat (first | refine zM ?_ _ | refine zP ?_ | refine zQ ?_ _)); exact BK342.out) hb); have n5_ := zK (below_step (by repeat (first | (with_reducible first | exact HB.out | apply zA | apply zN | apply zD | refine below_set ?_ GE342.out) | exact HB.out)) hb); have n6_ := zK (hbox); have n7_ := zK ((by rw [hg]; exact (below_size (by repeat (first | (with_reducible first | exact HB.out | apply zA | apply zN | apply zD | refine below_set ?_ GE342.out) | exact HB.out))) : w.heap.size ≤ gb350)); have n8_ := zK ((by rw [hg]; exact (below_size (by repeat (first | (with_reducible first | exact HB.out | apply zA | apply zN | apply zD | refine below_set ?_ GE342.out) | exact HB.out))) : w.heap.size ≤ gb350)); have n9_ := zK ((by rw [hg]; exact Nat.ne_of_lt (blk_lt (g := gb342) (o := .cells #[.int .i64 t338, .slice Ao24 t339.length co24] 26 (0, 0)) (by (with_reducible repeat (first | refine zM ?_ _ | refine zP ?_ | refine zQ ?_ _)); exact BK342.out)) : gb342 ≠ gb350)); have n10_ := zK ((by rw [hg]; exact Nat.ne_of_gt (blk_lt (g := gb342) (o := .cells #[.int .i64 t338, .slice Ao24 t339.length co24] 26 (0, 0)) (by (with_reducible repeat (first | refine zM ?_ _ | refine zP ?_ | refine zQ ?_ _)); exact BK342.out)) : gb350 ≠ gb342)); clear HO337; clear HO341; clear HO345; clear HO349; clear BK342; clear HB; have HO337 := n0_; have HO341 := n1_; have HO345 := n2_; have HO349 := n3_; have BK342 := n4_; have HB := n5_; have BK350 := n6_; have GW350 := n7_; have GE350 := n8_; have NB342_350 := n9_; have NB350_342 := n10_; clear n0_ n1_ n2_ n3_ n4_ n5_ n6_ n7_ n8_ n9_ n10_; clear hb hbox hg; have hnb29 := NB350_342.out; have hnc29 := NB342_350.out; have hcz30_0 : w28.cell? ⟨gb350, 0, none⟩ = some (.int .i64 0) := (blk_cell BK350.out 0).trans rfl; have hcz30_1 : w28.cell? ⟨gb350, 1, none⟩ = some (.slice none 0 0) := (blk_cell BK350.out 1).trans rfl; have hfz30_0 := blk_frozen BK350.out 0; have hfz30_1 := blk_frozen BK350.out 1; obtain ⟨Ao31, co31, eo31⟩ := Kd.R_slice HO349.out; subst eo31; have hcz32_0 : w28.cell? ⟨gb342, 0, none⟩ = some (.int .i64 t338) := (blk_cell BK342.out 0).trans rfl; have hcz32_1 : w28.cell? ⟨gb342, 1, none⟩ = some (.slice Ao24 t339.length co24) := (blk_cell BK342.out 1).trans rfl; have hfz32_0 := blk_frozen BK342.out 0; have hfz32_1 := blk_frozen BK342.out 1) | ((with_reducible refine gate_callee (f := 12) rfl ?_); refine goesL_ (some 32) rfl rfl Tryz.func12 zq3 rfl #[.agg #[.int .i64 t346, .slice Ao31 t347.length co31], .agg #[.int .i64 t338, .slice Ao24 t339.length co24]] rfl zq1 ?_; (with_reducible refine (laws_eqFilesResult.calls k t346 _ _ t347 t338 _ _ t339 true _ ?side1 ?side2 ?side3 ?side4 A11.out).mono ?_); (case side1 => refine (Kd.R_reads' (e := 75) (base := w.heap.size) (ok := fun k_ => (True ∧ some k_ ≠ (.slice Ao24 t339.length co24 : Value).ownBlock)) (n := t347.length) (c := co31) ?_).2.2; exact (by (with_reducible repeat (first | apply zR | apply zV | apply zW)); exact (Kd.R_mono (Kd.R_far (p := ⟨gb350, 1, none⟩) (Kd.R_far (p := ⟨gb350, 0, none⟩) (Kd.R_types HO349.out BK350.out zq13) (fun _ hk => hk.2) (.int .i64 t346)) (fun _ hk => hk.2) (.slice Ao31 t347.length co31)) (fun _ h_ => h_.1)))); (case side2 => exact (Kd.R_reads' HO349.out).2.1); (case side3 => refine (Kd.R_reads' (e := 75) (base := w.heap.size) (ok := fun k_ => (True ∧ some k_ ≠ (.slice Ao31 t347.length co31 : Value).ownBlock)) (n := t339.length) (c := co24) ?_).2.2; exact (by (with_reducible repeat (first | apply zR | apply zV | apply zW)); exact (Kd.R_mono (Kd.R_far (p := ⟨gb350, 1, none⟩) (Kd.R_far (p := ⟨gb350, 0, none⟩) (Kd.R_types HO341.out BK350.out zq13) (fun _ hk => hk.2) (.int .i64 t346)) (fun _ hk => hk.2) (.slice Ao31 t347.length co31)) (fun _ h_ => h_.1)))); (case side4 => exact (Kd.R_reads' HO341.out).2.1); rintro e w33 ⟨rfl, hb⟩; refine ⟨_, rfl, ?_⟩; have n0_ := zK (Kd.R_below (by (with_reducible repeat (first | apply zR | apply zV | apply zW)); exact (Kd.R_mono (Kd.R_far (p := ⟨gb350, 1, none⟩) (Kd.R_far (p := ⟨gb350, 0, none⟩) (Kd.R_types HO337.out BK350.out zq13) (fun _ hk => hk.2) (.int .i64 t346)) (fun _ hk => hk.2) (.slice Ao31 t347.length co31)) (fun _ h_ => h_.1))) hb); have n1_ := zK (Kd.R_below (by (with_reducible repeat (first | apply zR | apply zV | apply zW)); exact (Kd.R_mono (Kd.R_far (p := ⟨gb350, 1, none⟩) (Kd.R_far (p := ⟨gb350, 0, none⟩) (Kd.R_types HO341.out BK350.out zq13) (fun _ hk => hk.2) (.int .i64 t346)) (fun _ hk => hk.2) (.slice Ao31 t347.length co31)) (fun _ h_ => h_.1))) hb); have n2_ := zK (Kd.R_below (by (with_reducible repeat (first | apply zR | apply zV | apply zW)); exact (Kd.R_mono (Kd.R_far (p := ⟨gb350, 1, none⟩) (Kd.R_far (p := ⟨gb350, 0, none⟩) (Kd.R_types HO345.out BK350.out zq13) (fun _ hk => hk.2) (.int .i64 t346)) (fun _ hk => hk.2) (.slice Ao31 t347.length co31)) (fun _ h_ => h_.1))) hb); have n3_ := zK (Kd.R_below (by (with_reducible repeat (first | apply zR | apply zV | apply zW)); exact (Kd.R_mono (Kd.R_far (p := ⟨gb350, 1, none⟩) (Kd.R_far (p := ⟨gb350, 0, none⟩) (Kd.R_types HO349.out BK350.out zq13) (fun _ hk => hk.2) (.int .i64 t346)) (fun _ hk => hk.2) (.slice Ao31 t347.length co31)) (fun _ h_ => h_.1))) hb); have n4_ := zK (blk_below (g := gb342) (o := .cells #[.int .i64 t338, .slice Ao24 t339.length co24] 26 (0, 0)) (by (with_reducible repeat (first | refine zM ?_ _ | refine zP ?_ | refine zQ ?_ _)); refine blk_far ?_ NB342_350.out _; (with_reducible repeat (first | refine zM ?_ _ | refine zP ?_ | refine zQ ?_ _)); refine blk_far ?_ NB342_350.out _; (with_reducible repeat (first | refine zM ?_ _ | refine zP ?_ | refine zQ ?_ _)); exact BK342.out) hb); have n5_ := zK (blk_below (g := gb350) (o := .cells #[.int .i64 t346, .slice Ao31 t347.length co31] 26 (0, 0)) (by (with_reducible repeat (first | refine zM ?_ _ | refine zP ?_ | refine zQ ?_ _)); refine blk_put (cs := #[.int .i64 t346, .slice none 0 0]) ?_ 1 _ rfl; (with_reducible repeat (first | refine zM ?_ _ | refine zP ?_ | refine zQ ?_ _)); refine blk_put (cs := #[.int .i64 0, .slice none 0 0]) ?_ 0 _ rfl; (with_reducible repeat (first | refine zM ?_ _ | refine zP ?_ | refine zQ ?_ _)); exact BK350.out) hb); have n6_ := zK (below_step (by repeat (first | (with_reducible first | exact HB.out | apply zA | apply zN | apply zD | refine below_set ?_ GE342.out | refine below_set ?_ GE350.out) | exact HB.out)) hb); clear HO337; clear HO341; clear HO345; clear HO349; clear BK342; clear BK350; clear HB; have HO337 := n0_; have HO341 := n1_; have HO345 := n2_; have HO349 := n3_; have BK342 := n4_; have BK350 := n5_; have HB := n6_; clear n0_ n1_ n2_ n3_ n4_ n5_ n6_; (try clear hb); (try clear hb2); (try clear hk); (try clear hi)) | ((with_reducible refine gate_callee (f := 10) rfl ?_); refine goesL_ (some 36) rfl rfl Tryz.func10 zq3 rfl #[.slice A0 l0.length c0] rfl zq1 ?_; (with_reducible refine (laws_toObjectS.calls k _ _ l0 t352 _ ?side1 ?side2 A13.out).mono ?_); (case side1 => repeat (first | exact (Kd.C_below HR0.out HB.out) | (with_reducible refine Kd.C_alloc ?_ _) | (with_reducible refine Kd.C_drewN ?_ _) | (with_reducible refine Kd.C_drew ?_))); (case side2 => exact HC0.out); rintro e w34 ⟨v353, rfl, ho0, hb⟩; refine ⟨_, rfl, ?_⟩; have n0_ := zK (Kd.R_elder' zq19 (Kd.R_base ho0) hb); have n1_ := zK (Kd.R_below zq21 hb); have n2_ := zK (Kd.R_elder' zq24 (Kd.R_base ho0) hb); have n3_ := zK (Kd.R_below zq26 hb); have n4_ := zK (Kd.R_lower (Kd.R_new' (Kd.R_new' ho0 (Kd.R_lt zq19)) (Kd.R_lt zq24)) (below_size (by repeat (first | (with_reducible first | exact HB.out | apply zA | apply zN | apply zD | refine below_set ?_ GE342.out | refine below_set ?_ GE350.out) | exact HB.out)))); have n5_ := zK (blk_below (g := gb342) (o := .cells #[.int .i64 t338, .slice Ao24 t339.length co24] 26 (0, 0)) (by (with_reducible repeat (first | refine zM ?_ _ | refine zP ?_ | refine zQ ?_ _)); exact BK342.out) hb); have n6_ := zK (blk_below (g := gb350) (o := .cells #[.int .i64 t346, .slice Ao31 t347.length co31] 26 (0, 0)) (by (with_reducible repeat (first | refine zM ?_ _ | refine zP ?_ | refine zQ ?_ _)); exact BK350.out) hb); have n7_ := zK (below_step (by repeat (first | (with_reducible first | exact HB.out | apply zA | apply zN | apply zD | refine below_set ?_ GE342.out | refine below_set ?_ GE350.out) | exact HB.out)) hb); clear HO337; clear HO341; clear HO345; clear HO349; clear BK342; clear BK350; clear HB; have HO337 := n0_; have HO341 := n1_; have HO345 := n2_; have HO349 := n3_; have HO354 := n4_; have BK342 := n5_; have BK350 := n6_; have HB := n7_; clear n0_ n1_ n2_ n3_ n4_ n5_ n6_ n7_; (try clear hb); (try clear hb2); (try clear hk); (try clear hi); (try clear ho0); obtain ⟨Ao35, co35, eo35⟩ := Kd.R_slice HO354.out; subst eo35) | ((with_reducible refine gate_callee (f := 13) rfl ?_); refine goesL_ (some 37) rfl rfl Tryz.func13 zq3 rfl #[.slice Ao26 t343.length co26, .slice Ao35 t352.length co35] rfl zq1 ?_; (with_reducible refine (laws_eqObjectS.calls k _ _ t343 _ _ t352 true _ ?side1 ?side2 ?side3 ?side4 A14.out).mono ?_); (case side1 => repeat (first | exact (Kd.R_reads' HO345.out).2.2 | (with_reducible refine Kd.C_alloc ?_ _) | (with_reducible refine Kd.C_drewN ?_ _) | (with_reducible refine Kd.C_drew ?_))); (case side2 => exact (Kd.R_reads' HO345.out).2.1); (case side3 => repeat (first | exact (Kd.R_reads' HO354.out).2.2 | (with_reducible refine Kd.C_alloc ?_ _) | (with_reducible refine Kd.C_drewN ?_ _) | (with_reducible refine Kd.C_drew ?_))); (case side4 => exact (Kd.R_reads' HO354.out).2.1); rintro e w36 ⟨rfl, hb⟩; refine ⟨_, rfl, ?_⟩; have n0_ := zK (Kd.R_below zq19 hb); have n1_ := zK (Kd.R_below zq21 hb); have n2_ := zK (Kd.R_below zq24 hb); have n3_ := zK (Kd.R_below zq26 hb); have n4_ := zK (Kd.R_below (by (with_reducible repeat (first | apply zR | apply zV | apply zW)); exact HO354.out) hb); have n5_ := zK (blk_below (g := gb342) (o := .cells #[.int .i64 t338, .slice Ao24 t339.length co24] 26 (0, 0)) (by (with_reducible repeat (first | refine zM ?_ _ | refine zP ?_ | refine zQ ?_ _)); exact BK342.out) hb); have n6_ := zK (blk_below (g := gb350) (o := .cells #[.int .i64 t346, .slice Ao31 t347.length co31] 26 (0, 0)) (by (with_reducible repeat (first | refine zM ?_ _ | refine zP ?_ | refine zQ ?_ _)); exact BK350.out) hb); have n7_ := zK (below_step (by repeat (first | (with_reducible first | exact HB.out | apply zA | apply zN | apply zD | refine below_set ?_ GE342.out | refine below_set ?_ GE350.out) | exact HB.out)) hb); clear HO337; clear HO341; clear HO345; clear HO349; clear HO354; clear BK342; clear BK350; clear HB; have HO337 := n0_; have HO341 := n1_; have HO345 := n2_; have HO349 := n3_; have HO354 := n4_; have BK342 := n5_; have BK350 := n6_; have HB := n7_; clear n0_ n1_ n2_ n3_ n4_ n5_ n6_ n7_; (try clear hb); (try clear hb2); (try clear hk); (try clear hi)) | ((with_reducible refine gate_callee (f := 14) rfl ?_); refine goesL_ (some 41) rfl rfl Tryz.func14 zq3 rfl #[.slice Ao26 t343.length co26, .int .i64 1] rfl zq1 ?_; (with_reducible refine (laws_markObjectS.calls k (fun k_ => some k_ = (.slice Ao26 t343.length co26 : Value).ownBlock) (.slice Ao26 t343.length co26) t343 1 t356 t357 w _ ?side1 ?side2 A16.out).mono ?_); (case side1 => repeat (first | (with_reducible first | exact HB.out | apply zA | apply zN | apply zD | refine below_set ?_ GE342.out | refine below_set ?_ GE350.out) | exact HB.out)); (case side2 => exact Kd.R_tight rfl HO345.out); rintro e w37 ⟨rfl, hy0, hb, hkp⟩; refine ⟨_, rfl, ?_⟩; have n0_ := zK (Kd.R_mono (ok' := fun k_ => some k_ ≠ (.slice Ao26 t343.length co26 : Value).ownBlock ∧ some k_ ≠ (.slice Ao35 t352.length co35 : Value).ownBlock) (Kd.R_keptB (HO337.out) hkp (fun k_ hk_ hs_ => (hk_.1.2) hs_)) (fun k_ hk_ => ⟨hk_.1.1.2, hk_.1.2⟩)); have n1_ := zK (Kd.R_mono (ok' := fun k_ => some k_ ≠ (.slice Ao31 t347.length co31 : Value).ownBlock) (Kd.R_keptB ((Kd.R_apart' HO341.out (Kd.R_typed HO345.out) zq13)) hkp (fun k_ hk_ hs_ => (hk_.2) hs_)) (fun k_ hk_ => hk_.1.1.2)); have n2_ := zK (blk_kept (by (with_reducible repeat (first | refine zM ?_ _ | refine zP ?_ | refine zQ ?_ _)); exact BK342.out) hkp (fun hs_ => (fun e_ => (Kd.R_ne HO345.out BK342.out zq13) e_) hs_)); have n3_ := zK (Kd.R_reok rfl hy0 (fun k_ e_ => HO345.out.1 k_ e_)); have n4_ := zK (Kd.R_mono (ok' := fun k_ => some k_ ≠ (.slice Ao24 t339.length co24 : Value).ownBlock) (Kd.R_keptB ((Kd.R_apart' HO349.out (Kd.R_typed HO345.out) zq13)) hkp (fun k_ hk_ hs_ => (hk_.2) hs_)) (fun k_ hk_ => hk_.1.1.2)); have n5_ := zK (blk_kept (by (with_reducible repeat (first | refine zM ?_ _ | refine zP ?_ | refine zQ ?_ _)); exact BK350.out) hkp (fun hs_ => (fun e_ => (Kd.R_ne HO345.out BK350.out zq13) e_) hs_)); have n6_ := zK (Kd.R_mono (ok' := fun k_ => some k_ ≠ (.slice Ao20 t335.length co20 : Value).ownBlock ∧ some k_ ≠ (.slice Ao26 t343.length co26 : Value).ownBlock) (Kd.R_keptB (HO354.out) hkp (fun k_ hk_ hs_ => (hk_.2) hs_)) (fun k_ hk_ => ⟨hk_.1.1.2, hk_.1.2⟩)); have n7_ := zK (hb); clear HO337; clear HO341; clear BK342; clear HO345; clear HO349; clear BK350; clear HO354; clear HB; have HO337 := n0_; have HO341 := n1_; have BK342 := n2_; have HO345 := n3_; have HO349 := n4_; have BK350 := n5_; have HO354 := n6_; have HB := n7_; clear n0_ n1_ n2_ n3_ n4_ n5_ n6_ n7_; (try clear hb); (try clear hkp); (try clear hy0)))
   (try simp only [Act.put, zS, zT, zU])
   go_cut [49] (fun v49 wc => ∃ (kq : Nat) (x49_16 : Bool), v49 = .bool x49_16 ∧ Aside0 (laws_FnExactReadFiles.j0 kq l0 a1 x49_16 t338 t339 t346 t347 = some r) ∧ Aside0 (kq ≤ k) ∧ Aside0 (Kd.R k75 75 wc w.heap.size (fun k_ => some k_ ≠ ((.slice Ao31 t347.length co31) : Value).ownBlock) (.slice Ao24 t339.length co24) t339) ∧ Aside0 (Kd.R k75 75 wc w.heap.size (fun k_ => some k_ ≠ ((.slice Ao24 t339.length co24) : Value).ownBlock) (.slice Ao31 t347.length co31) t347) ∧ Aside0 (wc.heap[gb342]? = some (.cells #[.int .i64 t338, (.slice Ao24 t339.length co24)] 26 (0, 0))) ∧ Aside0 (wc.heap[gb350]? = some (.cells #[.int .i64 t346, (.slice Ao31 t347.length co31)] 26 (0, 0))) ∧ Aside0 (Below w.heap.size w wc))
   case first =>
    have H := HC17.out
    clear HC17
    by_cases c38 : t356 < 0
    ·
     rw [if_pos c38] at H
     have c38b0 : decide (t356 < 0) = true := decide_eq_true c38
     clear c38
     (first | rw [c38b0] | (simp only [i64_w, i32_w]; rw [c38b0]) | skip)
     have H' := zK H
     clear H
     go_wp2
     go_meet
     case rel => exact ⟨_, (true), zq4, H', ⟨by first | omega | exact Nat.le_refl _⟩, ⟨by (with_reducible repeat (first | apply zR | apply zV | apply zW)); exact HO341.out⟩, ⟨by (with_reducible repeat (first | apply zR | apply zV | apply zW)); exact HO349.out⟩, ⟨by (with_reducible repeat (first | refine zM ?_ _ | refine zP ?_ | refine zQ ?_ _)); exact BK342.out⟩, ⟨by (with_reducible repeat (first | refine zM ?_ _ | refine zP ?_ | refine zQ ?_ _)); exact BK350.out⟩, ⟨by repeat (first | (with_reducible first | exact HB.out | apply zA | apply zN | apply zD | refine below_set ?_ GE342.out | refine below_set ?_ GE350.out) | exact HB.out)⟩⟩
    rw [if_neg c38] at H
    have c38b0 : decide (t356 < 0) = false := decide_eq_false c38
    clear c38
    (first | rw [c38b0] | (simp only [i64_w, i32_w]; rw [c38b0]) | skip)
    replace H := Option.bind_eq_some_iff.mp H
    obtain ⟨t358, A390, H⟩ := H
    replace H : (laws_FnExactReadFiles.j0 k l0 a1 (!t358) t338 t339 t346 t347) = some r := H
    have A39 := zK A390
    clear A390
    have H' := zK H
    clear H
    have hnb40 := NB350_342.out
    have hnc40 := NB342_350.out
    have hcz41_0 : w37.cell? ⟨gb350, 0, none⟩ = some (.int .i64 t346) := (blk_cell BK350.out 0).trans rfl
    have hcz41_1 : w37.cell? ⟨gb350, 1, none⟩ = some (.slice Ao31 t347.length co31) := (blk_cell BK350.out 1).trans rfl
    have hfz41_0 := blk_frozen BK350.out 0
    have hfz41_1 := blk_frozen BK350.out 1
    have hcz42_0 : w37.cell? ⟨gb342, 0, none⟩ = some (.int .i64 t338) := (blk_cell BK342.out 0).trans rfl
    have hcz42_1 : w37.cell? ⟨gb342, 1, none⟩ = some (.slice Ao24 t339.length co24) := (blk_cell BK342.out 1).trans rfl
    have hfz42_0 := blk_frozen BK342.out 0
    have hfz42_1 := blk_frozen BK342.out 1
    go_wp2_with (first | (go_at_call 12; (with_reducible refine (laws_eqFilesResult.calls k t346 _ _ t347 t338 _ _ t339 t358 _ ?side1 ?side2 ?side3 ?side4 A39.out).mono ?_); (case side1 => repeat (first | exact (Kd.R_reads' HO349.out).2.2 | (with_reducible refine Kd.C_alloc ?_ _) | (with_reducible refine Kd.C_drewN ?_ _) | (with_reducible refine Kd.C_drew ?_))); (case side2 => exact (Kd.R_reads' HO349.out).2.1); (case side3 => repeat (first | exact (Kd.R_reads' HO341.out).2.2 | (with_reducible refine Kd.C_alloc ?_ _) | (with_reducible refine Kd.C_drewN ?_ _) | (with_reducible refine Kd.C_drew ?_))); (case side4 => exact (Kd.R_reads' HO341.out).2.1); rintro e w43 ⟨rfl, hb⟩; have n0_ := zK (Kd.R_below zq19 hb); have n1_ := zK (Kd.R_below zq21 hb); have n2_ := zK (Kd.R_below zq24 hb); have n3_ := zK (Kd.R_below zq26 hb); have n4_ := zK (Kd.R_below (by (with_reducible repeat (first | apply zR | apply zV | apply zW)); exact HO354.out) hb); have n5_ := zK (blk_below (g := gb342) (o := .cells #[.int .i64 t338, .slice Ao24 t339.length co24] 26 (0, 0)) (by (with_reducible repeat (first | refine zM ?_ _ | refine zP ?_ | refine zQ ?_ _)); exact BK342.out) hb); have n6_ := zK (blk_below (g := gb350) (o := .cells #[.int .i64 t346, .slice Ao31 t347.length co31] 26 (0, 0)) (by (with_reducible repeat (first | refine zM ?_ _ | refine zP ?_ | refine zQ ?_ _)); exact BK350.out) hb); have n7_ := zK (below_step (by repeat (first | (with_reducible first | exact HB.out | apply zA | apply zN | apply zD | refine below_set ?_ GE342.out | refine below_set ?_ GE350.out) | exact HB.out)) hb); clear HO337; clear HO341; clear HO345; clear HO349; clear HO354; clear BK342; clear BK350; clear HB; have HO337 := n0_; have HO341 := n1_; have HO345 := n2_; have HO349 := n3_; have HO354 := n4_; have BK342 := n5_; have BK350 := n6_; have HB := n7_; clear n0_ n1_ n2_ n3_ n4_ n5_ n6_ n7_; (try clear hb); (try clear hb2); (try clear hk); (try clear hi)))
    go_meet
    case rel => exact ⟨_, (!t358), zq4, H', ⟨by first | omega | exact Nat.le_refl _⟩, ⟨by (with_reducible repeat (first | apply zR | apply zV | apply zW)); exact HO341.out⟩, ⟨by (with_reducible repeat (first | apply zR | apply zV | apply zW)); exact HO349.out⟩, ⟨by (with_reducible repeat (first | refine zM ?_ _ | refine zP ?_ | refine zQ ?_ _)); exact BK342.out⟩, ⟨by (with_reducible repeat (first | refine zM ?_ _ | refine zP ?_ | refine zQ ?_ _)); exact BK350.out⟩, ⟨by repeat (first | (with_reducible first | exact HB.out | apply zA | apply zN | apply zD | refine below_set ?_ GE342.out | refine below_set ?_ GE350.out) | exact HB.out)⟩⟩
   case rest =>
    clear HC17
    try clear c1
    try clear c2
    try clear p2
    try clear c3
    try clear c3b0
    try clear c3b1
    try clear c4
    try clear c5
    try clear c5b0
    try clear c8
    try clear c9
    try clear c10
    try clear c11
    try clear c12
    try clear c13
    try clear c14
    try clear c15
    try clear c29
    try clear c38
    try clear c38b0
    try clear c40
    try clear hcz23_0
    try clear hcz23_1
    try clear hcz30_0
    try clear hcz30_1
    try clear hcz32_0
    try clear hcz32_1
    try clear hcz41_0
    try clear hcz41_1
    try clear hcz42_0
    try clear hcz42_1
    try clear hfz23_0
    try clear hfz23_1
    try clear hfz30_0
    try clear hfz30_1
    try clear hfz32_0
    try clear hfz32_1
    try clear hfz41_0
    try clear hfz41_1
    try clear hfz42_0
    try clear hfz42_1
    obtain ⟨kq, x49_16, rfl, HA, HJ16, HO_343001, HO_351001, BK342, BK350, HB⟩ := hcut
    cases kq with
    | zero => exact absurd HA.out (by simp [laws_FnExactReadFiles.j0])
    | succ kj16 =>
     have H := HA.out
     clear HA
     simp only [laws_FnExactReadFiles.j0] at H
     by_cases c44 : x49_16 = true
     ·
      subst c44
      have H1 : (some false) = some r := by rw [if_pos rfl] at H; exact H
      clear H
      have H := H1
      clear H1
      exact absurd ((Option.some.inj H).trans hT_) zq13
     replace c44 := Bool.eq_false_iff.mpr c44
     subst c44
     have H1 : ((laws_markFilesResult.f kj16 t346 t347 1).bind fun bt359 => ((laws_heldFilesResult.f kj16 t346 bt359.2 1).bind fun t361 => (if t361 < 0 then (some false) else (if t361 = bt359.1 then ((laws_toObjectS.f kj16 l0).bind fun t362 => ((impl_ReadFiles.f kj16 t362 a1).bind fun bt365 => ((laws_eqFilesResult.f kj16 bt365.1 bt365.2 t338 t339).bind fun t370 => (if t370 = true then ((laws_heldFilesResult.f kj16 t346 bt359.2 1).bind fun t371 => (if t371 < 0 then (some false) else (if t371 = bt359.1 then (some true) else (some false)))) else (some false))))) else (some false))))) = some r := by rw [if_neg (show ¬ (false = true) by decide)] at H; exact H
     clear H
     have H := H1
     clear H1
     replace H := Option.bind_eq_some_iff.mp H
     obtain ⟨⟨t359, t360⟩, A450, H⟩ := H
     replace H : ((laws_heldFilesResult.f kj16 t346 t360 1).bind fun t361 => (if t361 < 0 then (some false) else (if t361 = t359 then ((laws_toObjectS.f kj16 l0).bind fun t362 => ((impl_ReadFiles.f kj16 t362 a1).bind fun bt365 => ((laws_eqFilesResult.f kj16 bt365.1 bt365.2 t338 t339).bind fun t370 => (if t370 = true then ((laws_heldFilesResult.f kj16 t346 t360 1).bind fun t371 => (if t371 < 0 then (some false) else (if t371 = t359 then (some true) else (some false)))) else (some false))))) else (some false)))) = some r := H
     have A45 := zK A450
     clear A450
     replace H := Option.bind_eq_some_iff.mp H
     obtain ⟨t361, A460, H⟩ := H
     replace H : (if t361 < 0 then (some false) else (if t361 = t359 then ((laws_toObjectS.f kj16 l0).bind fun t362 => ((impl_ReadFiles.f kj16 t362 a1).bind fun bt365 => ((laws_eqFilesResult.f kj16 bt365.1 bt365.2 t338 t339).bind fun t370 => (if t370 = true then ((laws_heldFilesResult.f kj16 t346 t360 1).bind fun t371 => (if t371 < 0 then (some false) else (if t371 = t359 then (some true) else (some false)))) else (some false))))) else (some false))) = some r := H
     have A46 := zK A460
     clear A460
     by_cases c47 : t361 < 0
     ·
      rw [if_pos c47] at H
      have c47b0 : decide (t361 < 0) = true := decide_eq_true c47
      clear c47
      exact absurd ((Option.some.inj H).trans hT_) zq13
     rw [if_neg c47] at H
     have c47b0 : decide (t361 < 0) = false := decide_eq_false c47
     clear c47
     by_cases c53 : t361 = t359
     ·
      rw [if_pos c53] at H
      have c53b0 : (t361 == t359) = true := beq_iff_eq.mpr c53
      have c53b1 : (t361 != t359) = false := bne_eq_false_iff_eq.mpr c53
      clear c53
      replace H := Option.bind_eq_some_iff.mp H
      obtain ⟨t362, A540, H⟩ := H
      replace H : ((impl_ReadFiles.f kj16 t362 a1).bind fun bt365 => ((laws_eqFilesResult.f kj16 bt365.1 bt365.2 t338 t339).bind fun t370 => (if t370 = true then ((laws_heldFilesResult.f kj16 t346 t360 1).bind fun t371 => (if t371 < 0 then (some false) else (if t371 = t359 then (some true) else (some false)))) else (some false)))) = some r := H
      have A54 := zK A540
      clear A540
      replace H := Option.bind_eq_some_iff.mp H
      obtain ⟨⟨t365, t366⟩, A550, H⟩ := H
      replace H : ((laws_eqFilesResult.f kj16 t365 t366 t338 t339).bind fun t370 => (if t370 = true then ((laws_heldFilesResult.f kj16 t346 t360 1).bind fun t371 => (if t371 < 0 then (some false) else (if t371 = t359 then (some true) else (some false)))) else (some false))) = some r := H
      have A55 := zK A550
      clear A550
      replace H := Option.bind_eq_some_iff.mp H
      obtain ⟨t370, A560, H⟩ := H
      replace H : (if t370 = true then ((laws_heldFilesResult.f kj16 t346 t360 1).bind fun t371 => (if t371 < 0 then (some false) else (if t371 = t359 then (some true) else (some false)))) else (some false)) = some r := H
      have A56 := zK A560
      clear A560
      by_cases c57 : t370 = true
      ·
       subst c57
       have H1 : ((laws_heldFilesResult.f kj16 t346 t360 1).bind fun t371 => (if t371 < 0 then (some false) else (if t371 = t359 then (some true) else (some false)))) = some r := by rw [if_pos rfl] at H; exact H
       clear H
       have H := H1
       clear H1
       replace H := Option.bind_eq_some_iff.mp H
       obtain ⟨t371, A580, H⟩ := H
       replace H : (if t371 < 0 then (some false) else (if t371 = t359 then (some true) else (some false))) = some r := H
       have A58 := zK A580
       clear A580
       by_cases c59 : t371 < 0
       ·
        rw [if_pos c59] at H
        have c59b0 : decide (t371 < 0) = true := decide_eq_true c59
        clear c59
        exact absurd ((Option.some.inj H).trans hT_) zq13
       rw [if_neg c59] at H
       have c59b0 : decide (t371 < 0) = false := decide_eq_false c59
       clear c59
       by_cases c77 : t371 = t359
       ·
        rw [if_pos c77] at H
        have c77b0 : (t371 == t359) = true := beq_iff_eq.mpr c77
        have c77b1 : (t371 != t359) = false := bne_eq_false_iff_eq.mpr c77
        clear c77
        obtain rfl := Option.some.inj H
        have hnb78 := NB350_342.out
        have hnc78 := NB342_350.out
        have hcz79_0 : wc.cell? ⟨gb350, 0, none⟩ = some (.int .i64 t346) := (blk_cell BK350.out 0).trans rfl
        have hcz79_1 : wc.cell? ⟨gb350, 1, none⟩ = some (.slice Ao31 t347.length co31) := (blk_cell BK350.out 1).trans rfl
        have hfz79_0 := blk_frozen BK350.out 0
        have hfz79_1 := blk_frozen BK350.out 1
        go_wp2_with (first | ((with_reducible refine gate_callee (f := 15) rfl ?_); refine goesL_ (some 52) rfl rfl Tryz.func15 zq3 rfl #[.agg #[.int .i64 t346, .slice Ao31 t347.length co31], .int .i64 1] rfl zq1 ?_; (with_reducible refine (laws_markFilesResult.calls kj16 t346 (fun k_ => some k_ = (.slice Ao31 t347.length co31 : Value).ownBlock) (.slice Ao31 t347.length co31) t347 1 t359 t360 w _ ?side1 ?side2 A45.out).mono ?_); (case side1 => repeat (first | (with_reducible first | exact HB.out | apply zA | apply zN | apply zD | refine below_set ?_ GE342.out | refine below_set ?_ GE350.out) | exact HB.out)); (case side2 => exact Kd.R_tight rfl HO_351001.out); rintro e w80 ⟨rfl, hy0, hb, hkp⟩; refine ⟨_, rfl, ?_⟩; have n0_ := zK (Kd.R_mono (ok' := fun k_ => some k_ ≠ (.slice Ao31 t347.length co31 : Value).ownBlock) (Kd.R_keptB (HO_343001.out) hkp (fun k_ hk_ hs_ => (hk_) hs_)) (fun k_ hk_ => hk_.1)); have n1_ := zK (Kd.R_reok rfl hy0 (fun k_ e_ => HO_351001.out.1 k_ e_)); have n2_ := zK (blk_kept (by (with_reducible repeat (first | refine zM ?_ _ | refine zP ?_ | refine zQ ?_ _)); exact BK342.out) hkp (fun hs_ => (fun e_ => (Kd.R_ne HO_351001.out BK342.out zq13) e_) hs_)); have n3_ := zK (blk_kept (by (with_reducible repeat (first | refine zM ?_ _ | refine zP ?_ | refine zQ ?_ _)); exact BK350.out) hkp (fun hs_ => (fun e_ => (Kd.R_ne HO_351001.out BK350.out zq13) e_) hs_)); have n4_ := zK (hb); clear HO_343001; clear HO_351001; clear BK342; clear BK350; clear HB; have HO_343001 := n0_; have HO_351001 := n1_; have BK342 := n2_; have BK350 := n3_; have HB := n4_; clear n0_ n1_ n2_ n3_ n4_; (try clear hb); (try clear hkp); (try clear hy0); have hcz81_0 : w80.cell? ⟨gb350, 0, none⟩ = some (.int .i64 t346) := (blk_cell BK350.out 0).trans rfl; have hcz81_1 : w80.cell? ⟨gb350, 1, none⟩ = some (.slice Ao31 t347.length co31) := (blk_cell BK350.out 1).trans rfl; have hfz81_0 := blk_frozen BK350.out 0; have hfz81_1 := blk_frozen BK350.out 1) | ((with_reducible refine gate_callee (f := 16) rfl ?_); refine goesL_ (some 55) rfl rfl Tryz.func16 zq3 rfl #[.agg #[.int .i64 t346, .slice Ao31 t360.length co31], .int .i64 1] rfl zq29 ?_; (with_reducible refine (laws_heldFilesResult.calls kj16 t346 _ _ t360 1 t361 _ ?side1 ?side2 A46.out).mono ?_); (case side1 => repeat (first | exact (Kd.R_reads' HO_351001.out).2.2 | (with_reducible refine Kd.C_alloc ?_ _) | (with_reducible refine Kd.C_drewN ?_ _) | (with_reducible refine Kd.C_drew ?_))); (case side2 => rw [show t360.length = t347.length from (Kd.R_reads' HO_351001.out).1.symm]; exact (Kd.R_reads' HO_351001.out).2.1); rintro e w82 ⟨rfl, hb⟩; refine ⟨_, rfl, ?_⟩; have n0_ := zK (Kd.R_below zq23 hb); have n1_ := zK (Kd.R_below zq22 hb); have n2_ := zK (blk_below (g := gb342) (o := .cells #[.int .i64 t338, .slice Ao24 t339.length co24] 26 (0, 0)) (by (with_reducible repeat (first | refine zM ?_ _ | refine zP ?_ | refine zQ ?_ _)); exact BK342.out) hb); have n3_ := zK (blk_below (g := gb350) (o := .cells #[.int .i64 t346, .slice Ao31 t347.length co31] 26 (0, 0)) (by (with_reducible repeat (first | refine zM ?_ _ | refine zP ?_ | refine zQ ?_ _)); exact BK350.out) hb); have n4_ := zK (below_step (by repeat (first | (with_reducible first | exact HB.out | apply zA | apply zN | apply zD | refine below_set ?_ GE342.out | refine below_set ?_ GE350.out) | exact HB.out)) hb); clear HO_343001; clear HO_351001; clear BK342; clear BK350; clear HB; have HO_343001 := n0_; have HO_351001 := n1_; have BK342 := n2_; have BK350 := n3_; have HB := n4_; clear n0_ n1_ n2_ n3_ n4_; (try clear hb); (try clear hb2); (try clear hk); (try clear hi)) | ((with_reducible refine gate_callee (f := 10) rfl ?_); refine goesL_ (some 62) rfl rfl Tryz.func10 zq3 rfl #[.slice A0 l0.length c0] rfl zq1 ?_; (with_reducible refine (laws_toObjectS.calls kj16 _ _ l0 t362 _ ?side1 ?side2 A54.out).mono ?_); (case side1 => repeat (first | exact (Kd.C_below HR0.out HB.out) | (with_reducible refine Kd.C_alloc ?_ _) | (with_reducible refine Kd.C_drewN ?_ _) | (with_reducible refine Kd.C_drew ?_))); (case side2 => exact HC0.out); rintro e w83 ⟨v363, rfl, ho0, hb⟩; refine ⟨_, rfl, ?_⟩; have n0_ := zK (Kd.R_below zq23 hb); have n1_ := zK (Kd.R_below zq22 hb); have n2_ := zK (Kd.R_lower ho0 (below_size (by repeat (first | (with_reducible first | exact HB.out | apply zA | apply zN | apply zD | refine below_set ?_ GE342.out | refine below_set ?_ GE350.out) | exact HB.out)))); have n3_ := zK (blk_below (g := gb342) (o := .cells #[.int .i64 t338, .slice Ao24 t339.length co24] 26 (0, 0)) (by (with_reducible repeat (first | refine zM ?_ _ | refine zP ?_ | refine zQ ?_ _)); exact BK342.out) hb); have n4_ := zK (blk_below (g := gb350) (o := .cells #[.int .i64 t346, .slice Ao31 t347.length co31] 26 (0, 0)) (by (with_reducible repeat (first | refine zM ?_ _ | refine zP ?_ | refine zQ ?_ _)); exact BK350.out) hb); have n5_ := zK (below_step (by repeat (first | (with_reducible first | exact HB.out | apply zA | apply zN | apply zD | refine below_set ?_ GE342.out | refine below_set ?_ GE350.out) | exact HB.out)) hb); clear HO_343001; clear HO_351001; clear BK342; clear BK350; clear HB; have HO_343001 := n0_; have HO_351001 := n1_; have HO364 := n2_; have BK342 := n3_; have BK350 := n4_; have HB := n5_; clear n0_ n1_ n2_ n3_ n4_ n5_; (try clear hb); (try clear hb2); (try clear hk); (try clear hi); (try clear ho0); obtain ⟨Ao84, co84, eo84⟩ := Kd.R_slice HO364.out; subst eo84) | ((with_reducible refine gate_callee (f := 11) rfl ?_); refine goesL_ (some 64) rfl rfl Tryz.func11 zq3 rfl #[.slice Ao84 t362.length co84, .string a1] rfl zq1 ?_; (with_reducible refine (impl_ReadFiles.calls kj16 _ _ t362 a1 t365 t366 _ ?side1 ?side2 (Gt.below HG.out (by repeat (first | (with_reducible first | exact HB.out | apply zA | apply zN | apply zD | refine below_set ?_ GE342.out | refine below_set ?_ GE350.out) | exact HB.out))) A55.out).mono ?_); (case side1 => repeat (first | exact (Kd.R_reads' HO364.out).2.2 | (with_reducible refine Kd.C_alloc ?_ _) | (with_reducible refine Kd.C_drewN ?_ _) | (with_reducible refine Kd.C_drew ?_))); (case side2 => exact (Kd.R_reads' HO364.out).2.1); rintro e w85 ⟨v367, rfl, ho0, hb⟩; refine ⟨_, rfl, ?_⟩; have n0_ := zK (Kd.R_elder' zq23 (Kd.R_base ho0) hb); have n1_ := zK (Kd.R_elder' zq22 (Kd.R_base ho0) hb); have n2_ := zK (Kd.R_below zq32 hb); have n3_ := zK (Kd.R_lower (Kd.R_new' (Kd.R_new' ho0 (Kd.R_lt zq23)) (Kd.R_lt zq22)) (below_size (by repeat (first | (with_reducible first | exact HB.out | apply zA | apply zN | apply zD | refine below_set ?_ GE342.out | refine below_set ?_ GE350.out) | exact HB.out)))); have n4_ := zK (blk_below (g := gb342) (o := .cells #[.int .i64 t338, .slice Ao24 t339.length co24] 26 (0, 0)) (by (with_reducible repeat (first | refine zM ?_ _ | refine zP ?_ | refine zQ ?_ _)); exact BK342.out) hb); have n5_ := zK (blk_below (g := gb350) (o := .cells #[.int .i64 t346, .slice Ao31 t347.length co31] 26 (0, 0)) (by (with_reducible repeat (first | refine zM ?_ _ | refine zP ?_ | refine zQ ?_ _)); exact BK350.out) hb); have n6_ := zK (below_step (by repeat (first | (with_reducible first | exact HB.out | apply zA | apply zN | apply zD | refine below_set ?_ GE342.out | refine below_set ?_ GE350.out) | exact HB.out)) hb); clear HO_343001; clear HO_351001; clear HO364; clear BK342; clear BK350; clear HB; have HO_343001 := n0_; have HO_351001 := n1_; have HO364 := n2_; have HO368 := n3_; have BK342 := n4_; have BK350 := n5_; have HB := n6_; clear n0_ n1_ n2_ n3_ n4_ n5_ n6_; (try clear hb); (try clear hb2); (try clear hk); (try clear hi); (try clear ho0)) | ((with_reducible refine gate_dst (N := 12) rfl ?_); refine box_event ?hg (N := 12) ?hd (cs := #[.int .i64 0, .slice none 0 0]) (t := 26) ?hr ?_; (case hd => rfl); (case hg => rfl); (case hr => first | (go_simp; done) | (go_simp; rfl)); intro gb369 hg w86 hbox hb; have n0_ := zK (Kd.R_below zq23 hb); have n1_ := zK (Kd.R_below zq22 hb); have n2_ := zK (Kd.R_below zq32 hb); have n3_ := zK (Kd.R_below (by (with_reducible repeat (first | apply zR | apply zV | apply zW)); exact HO368.out) hb); have n4_ := zK (blk_below (g := gb342) (o := .cells #[.int .i64 t338, .slice Ao24 t339.length co24] 26 (0, 0)) (by (with_reducible repeat (first | refine zM ?_ _ | refine zP ?_ | refine zQ ?_ _)); exact BK342.out) hb); have n5_ := zK (blk_below (g := gb350) (o := .cells #[.int .i64 t346, .slice Ao31 t347.length co31] 26 (0, 0)) (by (with_reducible repeat (first | refine zM ?_ _ | refine zP ?_ | refine zQ ?_ _)); exact BK350.out) hb); have n6_ := zK (below_step (by repeat (first | (with_reducible first | exact HB.out | apply zA | apply zN | apply zD | refine below_set ?_ GE342.out | refine below_set ?_ GE350.out) | exact HB.out)) hb); have n7_ := zK (hbox); have n8_ := zK ((by rw [hg]; exact (below_size (by repeat (first | (with_reducible first | exact HB.out | apply zA | apply zN | apply zD | refine below_set ?_ GE342.out | refine below_set ?_ GE350.out) | exact HB.out))) : w.heap.size ≤ gb369)); have n9_ := zK ((by rw [hg]; exact (below_size (by repeat (first | (with_reducible first | exact HB.out | apply zA | apply zN | apply zD | refine below_set ?_ GE342.out | refine below_set ?_ GE350.out) | exact HB.out))) : w.heap.size ≤ gb369)); have n10_ := zK ((by rw [hg]; exact Nat.ne_of_lt (blk_lt (g := gb342) (o := .cells #[.int .i64 t338, .slice Ao24 t339.length co24] 26 (0, 0)) (by (with_reducible repeat (first | refine zM ?_ _ | refine zP ?_ | refine zQ ?_ _)); exact BK342.out)) : gb342 ≠ gb369)); have n11_ := zK ((by rw [hg]; exact Nat.ne_of_gt (blk_lt (g := gb342) (o := .cells #[.int .i64 t338, .slice Ao24 t339.length co24] 26 (0, 0)) (by (with_reducible repeat (first | refine zM ?_ _ | refine zP ?_ | refine zQ ?_ _)); exact BK342.out)) : gb369 ≠ gb342)); have n12_ := zK ((by rw [hg]; exact Nat.ne_of_lt (blk_lt (g := gb350) (o := .cells #[.int .i64 t346, .slice Ao31 t347.length co31] 26 (0, 0)) (by (with_reducible repeat (first | refine zM ?_ _ | refine zP ?_ | refine zQ ?_ _)); exact BK350.out)) : gb350 ≠ gb369)); have n13_ := zK ((by rw [hg]; exact Nat.ne_of_gt (blk_lt (g := gb350) (o := .cells #[.int .i64 t346, .slice Ao31 t347.length co31] 26 (0, 0)) (by (with_reducible repeat (first | refine zM ?_ _ | refine zP ?_ | refine zQ ?_ _)); exact BK350.out)) : gb369 ≠ gb350)); clear HO_343001; clear HO_351001; clear HO364; clear HO368; clear BK342; clear BK350; clear HB; have HO_343001 := n0_; have HO_351001 := n1_; have HO364 := n2_; have HO368 := n3_; have BK342 := n4_; have BK350 := n5_; have HB := n6_; have BK369 := n7_; have GW369 := n8_; have GE369 := n9_; have NB342_369 := n10_; have NB369_342 := n11_; have NB350_369 := n12_; have NB369_350 := n13_; clear n0_ n1_ n2_ n3_ n4_ n5_ n6_ n7_ n8_ n9_ n10_ n11_ n12_ n13_; clear hb hbox hg; have hnb87 := NB369_342.out; have hnc87 := NB342_369.out; have hnb88 := NB369_350.out; have hnc88 := NB350_369.out; have hcz89_0 : w86.cell? ⟨gb369, 0, none⟩ = some (.int .i64 0) := (blk_cell BK369.out 0).trans rfl; have hcz89_1 : w86.cell? ⟨gb369, 1, none⟩ = some (.slice none 0 0) := (blk_cell BK369.out 1).trans rfl; have hfz89_0 := blk_frozen BK369.out 0; have hfz89_1 := blk_frozen BK369.out 1; obtain ⟨Ao90, co90, eo90⟩ := Kd.R_slice HO368.out; subst eo90; have hcz91_0 : w86.cell? ⟨gb342, 0, none⟩ = some (.int .i64 t338) := (blk_cell BK342.out 0).trans rfl; have hcz91_1 : w86.cell? ⟨gb342, 1, none⟩ = some (.slice Ao24 t339.length co24) := (blk_cell BK342.out 1).trans rfl; have hfz91_0 := blk_frozen BK342.out 0; have hfz91_1 := blk_frozen BK342.out 1) | ((with_reducible refine gate_callee (f := 12) rfl ?_); refine goesL_ (some 67) rfl rfl Tryz.func12 zq3 rfl #[.agg #[.int .i64 t365, .slice Ao90 t366.length co90], .agg #[.int .i64 t338, .slice Ao24 t339.length co24]] rfl zq1 ?_; (with_reducible refine (laws_eqFilesResult.calls kj16 t365 _ _ t366 t338 _ _ t339 true _ ?side1 ?side2 ?side3 ?side4 A56.out).mono ?_); (case side1 => refine (Kd.R_reads' (e := 75) (base := w.heap.size) (ok := fun k_ => ((True ∧ some k_ ≠ (.slice Ao24 t339.length co24 : Value).ownBlock) ∧ some k_ ≠ (.slice Ao31 t347.length co31 : Value).ownBlock)) (n := t366.length) (c := co90) ?_).2.2; exact (by (with_reducible repeat (first | apply zR | apply zV | apply zW)); exact (Kd.R_mono (Kd.R_far (p := ⟨gb369, 1, none⟩) (Kd.R_far (p := ⟨gb369, 0, none⟩) (Kd.R_types HO368.out BK369.out zq13) (fun _ hk => hk.2) (.int .i64 t365)) (fun _ hk => hk.2) (.slice Ao90 t366.length co90)) (fun _ h_ => h_.1)))); (case side2 => exact (Kd.R_reads' HO368.out).2.1); (case side3 => refine (Kd.R_reads' (e := 75) (base := w.heap.size) (ok := fun k_ => (some k_ ≠ (.slice Ao31 t347.length co31 : Value).ownBlock ∧ some k_ ≠ (.slice Ao90 t366.length co90 : Value).ownBlock)) (n := t339.length) (c := co24) ?_).2.2; exact (by (with_reducible repeat (first | apply zR | apply zV | apply zW)); exact (Kd.R_mono (Kd.R_far (p := ⟨gb369, 1, none⟩) (Kd.R_far (p := ⟨gb369, 0, none⟩) (Kd.R_types HO_343001.out BK369.out zq13) (fun _ hk => hk.2) (.int .i64 t365)) (fun _ hk => hk.2) (.slice Ao90 t366.length co90)) (fun _ h_ => h_.1)))); (case side4 => exact (Kd.R_reads' HO_343001.out).2.1); rintro e w92 ⟨rfl, hb⟩; refine ⟨_, rfl, ?_⟩; have n0_ := zK (Kd.R_below (by (with_reducible repeat (first | apply zR | apply zV | apply zW)); exact (Kd.R_mono (Kd.R_far (p := ⟨gb369, 1, none⟩) (Kd.R_far (p := ⟨gb369, 0, none⟩) (Kd.R_types HO_343001.out BK369.out zq13) (fun _ hk => hk.2) (.int .i64 t365)) (fun _ hk => hk.2) (.slice Ao90 t366.length co90)) (fun _ h_ => h_.1))) hb); have n1_ := zK (Kd.R_below (by (with_reducible repeat (first | apply zR | apply zV | apply zW)); exact (Kd.R_mono (Kd.R_far (p := ⟨gb369, 1, none⟩) (Kd.R_far (p := ⟨gb369, 0, none⟩) (Kd.R_types HO_351001.out BK369.out zq13) (fun _ hk => hk.2) (.int .i64 t365)) (fun _ hk => hk.2) (.slice Ao90 t366.length co90)) (fun _ h_ => h_.1))) hb); have n2_ := zK (Kd.R_below (by (with_reducible repeat (first | apply zR | apply zV | apply zW)); exact (Kd.R_mono (Kd.R_far (p := ⟨gb369, 1, none⟩) (Kd.R_far (p := ⟨gb369, 0, none⟩) (Kd.R_types HO364.out BK369.out zq13) (fun _ hk => hk.2) (.int .i64 t365)) (fun _ hk => hk.2) (.slice Ao90 t366.length co90)) (fun _ h_ => h_.1))) hb); have n3_ := zK (Kd.R_below (by (with_reducible repeat (first | apply zR | apply zV | apply zW)); exact (Kd.R_mono (Kd.R_far (p := ⟨gb369, 1, none⟩) (Kd.R_far (p := ⟨gb369, 0, none⟩) (Kd.R_types HO368.out BK369.out zq13) (fun _ hk => hk.2) (.int .i64 t365)) (fun _ hk => hk.2) (.slice Ao90 t366.length co90)) (fun _ h_ => h_.1))) hb); have n4_ := zK (blk_below (g := gb342) (o := .cells #[.int .i64 t338, .slice Ao24 t339.length co24] 26 (0, 0)) (by (with_reducible repeat (first | refine zM ?_ _ | refine zP ?_ | refine zQ ?_ _)); refine blk_far ?_ NB342_369.out _; (with_reducible repeat (first | refine zM ?_ _ | refine zP ?_ | refine zQ ?_ _)); refine blk_far ?_ NB342_369.out _; (with_reducible repeat (first | refine zM ?_ _ | refine zP ?_ | refine zQ ?_ _)); exact BK342.out) hb); have n5_ := zK (blk_below (g := gb350) (o := .cells #[.int .i64 t346, .slice Ao31 t347.length co31] 26 (0, 0)) (by (with_reducible repeat (first | refine zM ?_ _ | refine zP ?_ | refine zQ ?_ _)); refine blk_far ?_ NB350_369.out _; (with_reducible repeat (first | refine zM ?_ _ | refine zP ?_ | refine zQ ?_ _)); refine blk_far ?_ NB350_369.out _; (with_reducible repeat (first | refine zM ?_ _ | refine zP ?_ | refine zQ ?_ _)); exact BK350.out) hb); have n6_ := zK (blk_below (g := gb369) (o := .cells #[.int .i64 t365, .slice Ao90 t366.length co90] 26 (0, 0)) (by (with_reducible repeat (first | refine zM ?_ _ | refine zP ?_ | refine zQ ?_ _)); refine blk_put (cs := #[.int .i64 t365, .slice none 0 0]) ?_ 1 _ rfl; (with_reducible repeat (first | refine zM ?_ _ | refine zP ?_ | refine zQ ?_ _)); refine blk_put (cs := #[.int .i64 0, .slice none 0 0]) ?_ 0 _ rfl; (with_reducible repeat (first | refine zM ?_ _ | refine zP ?_ | refine zQ ?_ _)); exact BK369.out) hb); have n7_ := zK (below_step (by repeat (first | (with_reducible first | exact HB.out | apply zA | apply zN | apply zD | refine below_set ?_ GE342.out | refine below_set ?_ GE350.out | refine below_set ?_ GE369.out) | exact HB.out)) hb); clear HO_343001; clear HO_351001; clear HO364; clear HO368; clear BK342; clear BK350; clear BK369; clear HB; have HO_343001 := n0_; have HO_351001 := n1_; have HO364 := n2_; have HO368 := n3_; have BK342 := n4_; have BK350 := n5_; have BK369 := n6_; have HB := n7_; clear n0_ n1_ n2_ n3_ n4_ n5_ n6_ n7_; (try clear hb); (try clear hb2); (try clear hk); (try clear hi); have hcz93_0 : w92.cell? ⟨gb350, 0, none⟩ = some (.int .i64 t346) := (blk_cell BK350.out 0).trans rfl; have hcz93_1 : w92.cell? ⟨gb350, 1, none⟩ = some (.slice Ao31 t347.length co31) := (blk_cell BK350.out 1).trans rfl; have hfz93_0 := blk_frozen BK350.out 0; have hfz93_1 := blk_frozen BK350.out 1) | ((with_reducible refine gate_callee (f := 16) rfl ?_); refine goesL_ (some 71) rfl rfl Tryz.func16 zq3 rfl #[.agg #[.int .i64 t346, .slice Ao31 t360.length co31], .int .i64 1] rfl zq29 ?_; (with_reducible refine (laws_heldFilesResult.calls kj16 t346 _ _ t360 1 t371 _ ?side1 ?side2 A58.out).mono ?_); (case side1 => repeat (first | exact (Kd.R_reads' HO_351001.out).2.2 | (with_reducible refine Kd.C_alloc ?_ _) | (with_reducible refine Kd.C_drewN ?_ _) | (with_reducible refine Kd.C_drew ?_))); (case side2 => rw [show t360.length = t347.length from (Kd.R_reads' HO_351001.out).1.symm]; exact (Kd.R_reads' HO_351001.out).2.1); rintro e w94 ⟨rfl, hb⟩; refine ⟨_, rfl, ?_⟩; have n0_ := zK (Kd.R_below zq23 hb); have n1_ := zK (Kd.R_below zq22 hb); have n2_ := zK (Kd.R_below zq32 hb); have n3_ := zK (Kd.R_below (by (with_reducible repeat (first | apply zR | apply zV | apply zW)); exact HO368.out) hb); have n4_ := zK (blk_below (g := gb342) (o := .cells #[.int .i64 t338, .slice Ao24 t339.length co24] 26 (0, 0)) (by (with_reducible repeat (first | refine zM ?_ _ | refine zP ?_ | refine zQ ?_ _)); exact BK342.out) hb); have n5_ := zK (blk_below (g := gb350) (o := .cells #[.int .i64 t346, .slice Ao31 t347.length co31] 26 (0, 0)) (by (with_reducible repeat (first | refine zM ?_ _ | refine zP ?_ | refine zQ ?_ _)); exact BK350.out) hb); have n6_ := zK (blk_below (g := gb369) (o := .cells #[.int .i64 t365, .slice Ao90 t366.length co90] 26 (0, 0)) (by (with_reducible repeat (first | refine zM ?_ _ | refine zP ?_ | refine zQ ?_ _)); exact BK369.out) hb); have n7_ := zK (below_step (by repeat (first | (with_reducible first | exact HB.out | apply zA | apply zN | apply zD | refine below_set ?_ GE342.out | refine below_set ?_ GE350.out | refine below_set ?_ GE369.out) | exact HB.out)) hb); clear HO_343001; clear HO_351001; clear HO364; clear HO368; clear BK342; clear BK350; clear BK369; clear HB; have HO_343001 := n0_; have HO_351001 := n1_; have HO364 := n2_; have HO368 := n3_; have BK342 := n4_; have BK350 := n5_; have BK369 := n6_; have HB := n7_; clear n0_ n1_ n2_ n3_ n4_ n5_ n6_ n7_; (try clear hb); (try clear hb2); (try clear hk); (try clear hi)))
        go_ret
        exact ⟨zq5, (by repeat (first | (with_reducible first | exact HB.out | apply zA | apply zN | apply zD | refine below_set ?_ GE342.out | refine below_set ?_ GE350.out | refine below_set ?_ GE369.out) | exact HB.out))⟩
       rw [if_neg c77] at H
       have c77b0 : (t371 == t359) = false := beq_eq_false_iff_ne.mpr c77
       have c77b1 : (t371 != t359) = true := bne_iff_ne.mpr c77
       exact absurd ((Option.some.inj H).trans hT_) zq13
      replace c57 := Bool.eq_false_iff.mpr c57
      subst c57
      have H1 : (some false) = some r := by rw [if_neg (show ¬ (false = true) by decide)] at H; exact H
      clear H
      have H := H1
      clear H1
      exact absurd ((Option.some.inj H).trans hT_) zq13
     rw [if_neg c53] at H
     have c53b0 : (t361 == t359) = false := beq_eq_false_iff_ne.mpr c53
     have c53b1 : (t361 != t359) = true := bne_iff_ne.mpr c53
     exact absurd ((Option.some.inj H).trans hT_) zq13
  replace c15 := Bool.eq_false_iff.mpr c15
  subst c15
  have H1 : (some false) = some r := by rw [if_neg (show ¬ (false = true) by decide)] at H; exact H
  clear H
  have H := H1
  clear H1
  exact absurd ((Option.some.inj H).trans hT_) zq13
 replace c12 := Bool.eq_false_iff.mpr c12
 subst c12
 have H1 : (some false) = some r := by rw [if_neg (show ¬ (false = true) by decide)] at H; exact H
 clear H
 have H := H1
 clear H1
 exact absurd ((Option.some.inj H).trans hT_) zq13
end Go.Proofs.YtkjgnnhpjcofiaaGreatDoor.PX

namespace Go.Proofs.YtkjgnnhpjcofiaaGreatDoorX
open Go Go.RowKit Go.Proofs.YtkjgnnhpjcofiaaGreatDoorW.PrintWords Go.Proofs.YtkjgnnhpjcofiaaGreatDoor.PX
open Go.Proofs.YtkjgnnhpjcofiaaGreatDoor.PX.X (okO readV readF readV_len)
set_option linter.unusedVariables false
theorem readF_ok {l : List IObj} (hs : oSmall l) (h : storeV l = 0) (t : ByteArray) (k : Nat) (hk : 9000000 < k) : readF k l t = some (readV l t) := if_pos ⟨hk, ok_of_store hs h⟩
def ansV (l : List IObj) (t : ByteArray) : Int × List IFile := if storeV l = 0 then readV l t else (storeV l, [])
theorem ansV_len (l : List IObj) (t : ByteArray) : (ansV l t).2.length ≤ 60 := by
 unfold ansV
 split
 · exact readV_len l t
 · exact Nat.zero_le _
theorem impl_ans (l : List IObj) (t : ByteArray) (hs : oSmall l) (k : Nat) (hk : 9000000 < k) : impl_ReadFiles.f k l t = some (ansV l t) := by
 unfold impl_ReadFiles.f ansV
 rw [impl_store l hs k zq7, Option.bind_some]
 by_cases h : storeV l = 0
 · rw [if_pos h, if_pos h, show impl_readFiles.f k l t = _ from readF_ok hs h t k hk, Option.bind_some]
 · rw [if_neg h, if_neg h]
theorem spec_ans (l : List IObj) (t : ByteArray) (hs : oSmall l) (k : Nat) (hk : 9000000 < k) : spec_ReadFiles.f k l t = some (ansV l t) := by
 unfold spec_ReadFiles.f ansV
 rw [spec_store l hs k zq7, Option.bind_some]
 by_cases h : storeV l = 0
 · rw [if_pos h, if_pos h]
   unfold spec_l7Files.f
   rw [readF_ok hs h t k hk, Option.map_some, Option.bind_some]
 · rw [if_neg h, if_neg h]
theorem eqFilesResult_same (c : Int) (l : List IFile) (hl : l.length ≤ 1048576) (k : Nat) (hk : l.length < k) : laws_eqFilesResult.f k c l c l = some true := by
 unfold laws_eqFilesResult.f
 rw [if_pos rfl, eqFileS_same l hl k hk, Option.bind_some, if_pos rfl]
theorem readFiles_pure (l : List LObj) (id : ByteArray) (hl1 : l.length * 40 ≤ 140737488351232) (hl2 : ∀ x ∈ l, x.f0.size ≤ 140737488351232 ∧ (Go.Lit.int .i64 x.f1).wf = true ∧ x.f2.size ≤ 140737488351232) (hd : id.size ≤ 140737488351232) : ∃ k, laws_FnExactReadFiles.f k l id = some true := by
 obtain ⟨K, hK⟩ : ∃ K, K = l.length + 9000110 := ⟨_, rfl⟩
 refine ⟨K + 1, ?_⟩
 unfold laws_FnExactReadFiles.f
 by_cases cd : (id.size : Int) > 1048576
 · rw [if_pos cd]
 rw [if_neg cd]
 obtain ⟨r, hr, hle, hq⟩ := szObjectS_tells l zq7 (fun x hx => ⟨(hl2 x hx).1, (hl2 x hx).2.2⟩) 1048576 zq13 zq13 (K + 1) zq7
 rw [hr, Option.bind_some]
 by_cases c : r < 0
 · rw [if_pos c]
 obtain ⟨hn, hs⟩ := hq zq7
 have hm : (l.map objConv).length = l.length := List.length_map _
 have hv := ansV_len (l.map objConv) id
 have e1 := toObjectS_tells l hn (K + 1) zq7
 have e2 := spec_ans (l.map objConv) id (oconvs hs) (K + 1) zq7
 have e3 := impl_ans (l.map objConv) id (oconvs hs) (K + 1) zq7
 have e1' := toObjectS_tells l hn K zq7
 have e3' := impl_ans (l.map objConv) id (oconvs hs) K zq7
 have e4 := eqObjectS_same (l.map objConv) zq7 (K + 1) zq7
 have e5 := markObjectS_tells (l.map objConv) 1 zq7 (K + 1) zq7
 generalize ansV (l.map objConv) id = v at hv e2 e3 e3'
 obtain ⟨vc, vl⟩ := v
 simp only at hv
 have e6 := eqFilesResult_same vc vl zq7 (K + 1) zq7
 have e6' := eqFilesResult_same vc vl zq7 K zq7
 have m1 := markFileS_tells vl 1 zq7 K zq7
 have m2 := heldFileS_tells vl.length 1 zq7 K zq7
 rw [if_neg c]
 simp only [e1, e2, e3, e4, e6, Option.bind_some, if_true]
 rw [show laws_markObjectS.f (K + 1) (l.map objConv) 1 = _ from e5, Option.bind_some, if_neg zq7]
 rw [laws_FnExactReadFiles.j0, if_neg zq13]
 unfold laws_markFilesResult.f laws_heldFilesResult.f
 rw [show laws_markFileS.f K vl 1 = _ from m1]
 simp only [Option.bind_some]
 rw [show laws_heldFileS.f K (fileMarks 1 vl.length) 1 = _ from m2]
 simp only [Option.bind_some]
 rw [if_neg zq7]
 simp only [Option.bind_some]
 rw [if_neg zq7]
 simp only [e1', e3', e6', Option.bind_some, if_true]
 rw [if_neg zq7]
end Go.Proofs.YtkjgnnhpjcofiaaGreatDoorX
