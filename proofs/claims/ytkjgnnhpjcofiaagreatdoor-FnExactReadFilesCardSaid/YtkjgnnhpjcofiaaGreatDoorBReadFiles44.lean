/- Texts of this claim set one behind another by wip/bundle.py: XReadY, PXf41, PXf9, XReadI. -/
import Derived.Test.YtkjgnnhpjcofiaaGreatDoorBReadFiles43
import Derived.Test.YtkjgnnhpjcofiaaGreatDoorBReadFiles38
import Derived.Test.YtkjgnnhpjcofiaaGreatDoorBReadFiles14
import Derived.Test.YtkjgnnhpjcofiaaGreatDoorBReadFiles19
import Derived.Test.YtkjgnnhpjcofiaaGreatDoorBReadFiles11
import Derived.Test.YtkjgnnhpjcofiaaGreatDoorBReadFiles23
import Derived.Test.YtkjgnnhpjcofiaaGreatDoorBReadFiles40
import Derived.Test.YtkjgnnhpjcofiaaGreatDoorBReadFiles32
import Derived.Test.YtkjgnnhpjcofiaaGreatDoorBReadFiles33
import Derived.IntWalk
import Derived.Deep.RegionHeld3
namespace Go.Proofs.YtkjgnnhpjcofiaaGreatDoor.PX.X
open Go Go.RowKit Go.Lib Go.Proofs.YtkjgnnhpjcofiaaGreatDoorW.PrintWords Go.Proofs.YtkjgnnhpjcofiaaGreatDoor.PX Go.Proofs.YtkjgnnhpjcofiaaGreatDoorX Go.Proofs.YtkjgnnhpjcofiaaGreatDoorX.TD
set_option linter.unusedVariables false
theorem readFS_calls (k : Nat) (A0 : Option Addr) (c0 : Nat) (l0 : List IObj) (t : ByteArray) (r1 : List FileT) (r2 : Int) (w : World) (hr0 : Kd.C k65 w A0 l0.length l0) (hc0 : l0.length ≤ c0) (h : readF k l0 t = some (r2, r1)) :
 Calls Tryz.prog 41 #[.slice A0 l0.length c0, .string t] w fun e w' => ∃ v, e = .returned (.tuple #[v, .int .i64 r2]) ∧ Kd.R k75 75 w' w.heap.size (fun _ => True) v r1 ∧ Below w.heap.size w w' := by
 unfold readF at h
 by_cases hk : 9000000 < k ∧ okO l0
 · rw [if_pos hk] at h
   have hnd : ndG (gtI l0) deS = nodeV l0 := funext (ndS_eq hk.2)
   have hv := walkT_eq l0 t
   rw [← hnd] at hv
   have h2 := Option.some.inj h
   unfold readV at h2
   generalize walkT l0 t = q at hv h2
   obtain ⟨c, n', out⟩ := q
   have := filesS_calls k A0 c0 l0 (gtI l0) deS w hr0 hc0 (fun x => spec_getV l0 2 x (okO_rising hk.2) hk.2.1 k zq7) (fun x hb => deS_all (get_sz hk.2 x hb) k hk.1) (hnd ▸ node_good l0) t 5 c n' out hv
   rw [h2] at this
   exact this
 · rw [if_neg hk] at h
   cases h
end Go.Proofs.YtkjgnnhpjcofiaaGreatDoor.PX.X

namespace Go.Proofs.YtkjgnnhpjcofiaaGreatDoor.PX
open Go.RowKit Go.Proofs.YtkjgnnhpjcofiaaGreatDoorW.PrintWords Go.Proofs.YtkjgnnhpjcofiaaGreatDoorW.PrintLast Go.Proofs.YtkjgnnhpjcofiaaGreatDoorW.PrintMore
attribute [local go_sem] max2_int min2_int max_two min_two max_three min_three max_four min_four   -- for this text's walks alone
set_option linter.unusedVariables false
set_option linter.unusedSimpArgs false
def spec_l7Files.f (k : Nat) (l0 : List (S65)) (a1 : ByteArray) : Option (List X.FileT × Int) := (X.readF k l0 a1).map fun r => (r.2, r.1)
theorem spec_l7Files.calls (k : Nat) (A0 : Option Addr) (c0 : Nat) (l0 : List (S65)) (a1 : ByteArray) (r1 : List X.FileT) (r2 : Int) (w : World) (hr0 : Kd.C k65 w A0 l0.length l0) (hc0 : l0.length ≤ c0) (h : spec_l7Files.f k l0 a1 = some (r1, r2)) :
  Calls Tryz.prog 41 #[.slice A0 l0.length c0, .string a1] w fun e w' => ∃ v0_ : Value, e = .returned (.tuple #[v0_, .int .i64 r2]) ∧ Kd.R k75 75 w' w.heap.size (fun _ => True) v0_ r1 ∧ Below w.heap.size w w' := by
 obtain ⟨⟨c, fs⟩, hq, hr⟩ := Option.map_eq_some_iff.1 h
 obtain ⟨rfl, rfl⟩ := Prod.mk.inj hr
 exact X.readFS_calls k A0 c0 l0 a1 _ _ w hr0 hc0 hq
def spec_ReadFiles.f (k : Nat) (l0 : List (S65)) (a1 : ByteArray) : Option (Int × (List (S75))) := (spec_StoreFault.f k l0).bind fun t174 => (if t174 = 0 then ((spec_l7Files.f k l0 a1).bind fun bt175 => (some (bt175.2, bt175.1))) else (some (t174, ([] : List (S75)))))
set_option maxHeartbeats 8000000 in
set_option maxRecDepth 100000 in
theorem spec_ReadFiles.calls (k : Nat) (A0 : Option Addr) (c0 : Nat) (l0 : List (S65)) (a1 : ByteArray) (r1 : Int) (r2 : List (S75)) (w : World) (hr0 : Kd.C k65 w A0 l0.length l0) (hc0 : l0.length ≤ c0) (h : spec_ReadFiles.f k l0 a1 = some (r1, r2)) :
  Calls Tryz.prog 9 #[.slice A0 l0.length c0, .string a1] w fun e w' => ∃ v1_ : Value, e = .returned (.agg #[.int .i64 r1, v1_]) ∧ Kd.R k75 75 w' w.heap.size (fun _ => True) v1_ r2 ∧ Below w.heap.size w w' := by
 have hu26 := Tryz.underlying26
 have HR0 := zK hr0
 have HC0 := zK hc0
 clear hr0 hc0
 have HB := zK (Below.refl w.heap.size w)
 have H : ((spec_StoreFault.f k l0).bind fun t174 => (if t174 = 0 then ((spec_l7Files.f k l0 a1).bind fun bt175 => (some (bt175.2, bt175.1))) else (some (t174, ([] : List (S75)))))) = some (r1, r2) := h
 clear h
 replace H := Option.bind_eq_some_iff.mp H
 obtain ⟨t174, A30, H⟩ := H
 replace H : (if t174 = 0 then ((spec_l7Files.f k l0 a1).bind fun bt175 => (some (bt175.2, bt175.1))) else (some (t174, ([] : List (S75))))) = some (r1, r2) := H
 have A3 := zK A30
 clear A30
 by_cases c4 : t174 = 0
 ·
  rw [if_pos c4] at H
  have c4b0 : (t174 == 0) = true := beq_iff_eq.mpr c4
  have c4b1 : (t174 != 0) = false := bne_eq_false_iff_eq.mpr c4
  clear c4
  replace H := Option.bind_eq_some_iff.mp H
  obtain ⟨⟨t175, t176⟩, A50, H⟩ := H
  replace H : (some (t176, t175)) = some (r1, r2) := H
  have A5 := zK A50
  clear A50
  simp only [Option.some.injEq, Prod.mk.injEq] at H
  obtain ⟨rfl, rfl⟩ := H
  go_enter Tryz.func9, Tryz.ntmps9
  go_wp2_with (first | ((with_reducible refine gate_dst (N := 4) rfl ?_); refine box_event ?hg (N := 4) ?hd (cs := #[.int .i64 0, .slice none 0 0]) (t := 26) ?hr ?_; (case hd => rfl); (case hg => rfl); (case hr => first | (go_simp; done) | (go_simp; rfl)); intro gb173 hg w6 hbox hb; have n0_ := zK (below_step zq0 hb); have n1_ := zK (hbox); have n2_ := zK ((by rw [hg]; exact (below_size zq0) : w.heap.size ≤ gb173)); have n3_ := zK ((by rw [hg]; exact (below_size zq0) : w.heap.size ≤ gb173)); clear HB; have HB := n0_; have BK173 := n1_; have GW173 := n2_; have GE173 := n3_; clear n0_ n1_ n2_ n3_; clear hb hbox hg) | ((with_reducible refine gate_callee (f := 40) rfl ?_); refine goesL_ (some 9) rfl rfl Tryz.func40 zq3 rfl #[.slice A0 l0.length c0] rfl zq1 ?_; (with_reducible refine (spec_StoreFault.calls k _ _ l0 t174 _ ?side1 ?side2 A3.out).mono ?_); (case side1 => repeat (first | exact (Kd.C_below HR0.out HB.out) | (with_reducible refine Kd.C_alloc ?_ _) | (with_reducible refine Kd.C_drewN ?_ _) | (with_reducible refine Kd.C_drew ?_))); (case side2 => exact HC0.out); rintro e w7 ⟨rfl, hb⟩; refine ⟨_, rfl, ?_⟩; have n0_ := zK (blk_below (g := gb173) (o := .cells #[.int .i64 0, .slice none 0 0] 26 (0, 0)) (by (with_reducible repeat (first | refine zM ?_ _ | refine zP ?_ | refine zQ ?_ _)); exact BK173.out) hb); have n1_ := zK (below_step (by repeat (first | (with_reducible first | exact HB.out | apply zA | apply zN | apply zD | refine below_set ?_ GE173.out) | exact HB.out)) hb); clear BK173; clear HB; have BK173 := n0_; have HB := n1_; clear n0_ n1_; (try clear hb); (try clear hb2); (try clear hk); (try clear hi)) | ((with_reducible refine gate_callee (f := 41) rfl ?_); refine goesL_ (some 17) rfl rfl Tryz.func41 zq3 rfl #[.slice A0 l0.length c0, .string a1] rfl zq1 ?_; (with_reducible refine (spec_l7Files.calls k _ _ l0 a1 t175 t176 _ ?side1 ?side2 A5.out).mono ?_); (case side1 => repeat (first | exact (Kd.C_below HR0.out HB.out) | (with_reducible refine Kd.C_alloc ?_ _) | (with_reducible refine Kd.C_drewN ?_ _) | (with_reducible refine Kd.C_drew ?_))); (case side2 => exact HC0.out); rintro e w8 ⟨v177, rfl, ho0, hb⟩; refine ⟨_, rfl, ?_⟩; have n0_ := zK (Kd.R_lower ho0 (below_size (by repeat (first | (with_reducible first | exact HB.out | apply zA | apply zN | apply zD | refine below_set ?_ GE173.out) | exact HB.out)))); have n1_ := zK (blk_below (g := gb173) (o := .cells #[.int .i64 0, .slice none 0 0] 26 (0, 0)) (by (with_reducible repeat (first | refine zM ?_ _ | refine zP ?_ | refine zQ ?_ _)); exact BK173.out) hb); have n2_ := zK (below_step (by repeat (first | (with_reducible first | exact HB.out | apply zA | apply zN | apply zD | refine below_set ?_ GE173.out) | exact HB.out)) hb); clear BK173; clear HB; have HO178 := n0_; have BK173 := n1_; have HB := n2_; clear n0_ n1_ n2_; (try clear hb); (try clear hb2); (try clear hk); (try clear hi); (try clear ho0); obtain ⟨Ao9, co9, eo9⟩ := Kd.R_slice HO178.out; subst eo9; have hcz10_0 : w8.cell? ⟨gb173, 0, none⟩ = some (.int .i64 0) := (blk_cell BK173.out 0).trans rfl; have hcz10_1 : w8.cell? ⟨gb173, 1, none⟩ = some (.slice none 0 0) := (blk_cell BK173.out 1).trans rfl; have hfz10_0 := blk_frozen BK173.out 0; have hfz10_1 := blk_frozen BK173.out 1))
  refine bodyPost_ret (results_cell_row rfl _ _ gb173 26 #[.int .i64 t176, .slice Ao9 t175.length co9] (0, 0) _ rfl (by (with_reducible repeat (first | refine zM ?_ _ | refine zP ?_ | refine zQ ?_ _)); refine blk_put (cs := #[.int .i64 t176, .slice none 0 0]) ?_ 1 _ rfl; (with_reducible repeat (first | refine zM ?_ _ | refine zP ?_ | refine zQ ?_ _)); refine blk_put (cs := #[.int .i64 0, .slice none 0 0]) ?_ 0 _ rfl; (with_reducible repeat (first | refine zM ?_ _ | refine zP ?_ | refine zQ ?_ _)); exact BK173.out) Tryz.underlying26 rfl zq3) rfl ?_
  exact ⟨_, zq5, (by (with_reducible repeat (first | apply zR | apply zV | apply zW)); exact Kd.R_mono (Kd.R_far (p := ⟨gb173, 1, none⟩) (Kd.R_far (p := ⟨gb173, 0, none⟩) (Kd.R_types HO178.out BK173.out zq13) (fun _ hk => hk.2) (.int .i64 t176)) (fun _ hk => hk.2) (.slice Ao9 t175.length co9)) (fun _ hk => trivial)), (by repeat (first | (with_reducible first | exact HB.out | apply zA | apply zN | apply zD | refine below_set ?_ GE173.out) | exact HB.out))⟩
 rw [if_neg c4] at H
 have c4b0 : (t174 == 0) = false := beq_eq_false_iff_ne.mpr c4
 have c4b1 : (t174 != 0) = true := bne_iff_ne.mpr c4
 simp only [Option.some.injEq, Prod.mk.injEq] at H
 obtain ⟨rfl, rfl⟩ := H
 go_enter Tryz.func9, Tryz.ntmps9
 go_wp2_with (first | ((with_reducible refine gate_dst (N := 4) rfl ?_); refine box_event ?hg (N := 4) ?hd (cs := #[.int .i64 0, .slice none 0 0]) (t := 26) ?hr ?_; (case hd => rfl); (case hg => rfl); (case hr => first | (go_simp; done) | (go_simp; rfl)); intro gb173 hg w11 hbox hb; have n0_ := zK (below_step zq0 hb); have n1_ := zK (hbox); have n2_ := zK ((by rw [hg]; exact (below_size zq0) : w.heap.size ≤ gb173)); have n3_ := zK ((by rw [hg]; exact (below_size zq0) : w.heap.size ≤ gb173)); clear HB; have HB := n0_; have BK173 := n1_; have GW173 := n2_; have GE173 := n3_; clear n0_ n1_ n2_ n3_; clear hb hbox hg) | ((with_reducible refine gate_callee (f := 40) rfl ?_); refine goesL_ (some 9) rfl rfl Tryz.func40 zq3 rfl #[.slice A0 l0.length c0] rfl zq1 ?_; (with_reducible refine (spec_StoreFault.calls k _ _ l0 t174 _ ?side1 ?side2 A3.out).mono ?_); (case side1 => repeat (first | exact (Kd.C_below HR0.out HB.out) | (with_reducible refine Kd.C_alloc ?_ _) | (with_reducible refine Kd.C_drewN ?_ _) | (with_reducible refine Kd.C_drew ?_))); (case side2 => exact HC0.out); rintro e w12 ⟨rfl, hb⟩; refine ⟨_, rfl, ?_⟩; have n0_ := zK (blk_below (g := gb173) (o := .cells #[.int .i64 0, .slice none 0 0] 26 (0, 0)) (by (with_reducible repeat (first | refine zM ?_ _ | refine zP ?_ | refine zQ ?_ _)); exact BK173.out) hb); have n1_ := zK (below_step (by repeat (first | (with_reducible first | exact HB.out | apply zA | apply zN | apply zD | refine below_set ?_ GE173.out) | exact HB.out)) hb); clear BK173; clear HB; have BK173 := n0_; have HB := n1_; clear n0_ n1_; (try clear hb); (try clear hb2); (try clear hk); (try clear hi); have hcz13_0 : w12.cell? ⟨gb173, 0, none⟩ = some (.int .i64 0) := (blk_cell BK173.out 0).trans rfl; have hcz13_1 : w12.cell? ⟨gb173, 1, none⟩ = some (.slice none 0 0) := (blk_cell BK173.out 1).trans rfl; have hfz13_0 := blk_frozen BK173.out 0; have hfz13_1 := blk_frozen BK173.out 1))
 refine bodyPost_ret (results_cell_row rfl _ _ gb173 26 #[.int .i64 t174, .slice none 0 0] (0, 0) _ rfl (by (with_reducible repeat (first | refine zM ?_ _ | refine zP ?_ | refine zQ ?_ _)); refine blk_put (cs := #[.int .i64 t174, .slice none 0 0]) ?_ 1 _ rfl; (with_reducible repeat (first | refine zM ?_ _ | refine zP ?_ | refine zQ ?_ _)); refine blk_put (cs := #[.int .i64 0, .slice none 0 0]) ?_ 0 _ rfl; (with_reducible repeat (first | refine zM ?_ _ | refine zP ?_ | refine zQ ?_ _)); exact BK173.out) Tryz.underlying26 rfl zq3) rfl ?_
 exact ⟨_, zq5, zq20, (by repeat (first | (with_reducible first | exact HB.out | apply zA | apply zN | apply zD | refine below_set ?_ GE173.out) | exact HB.out))⟩
end Go.Proofs.YtkjgnnhpjcofiaaGreatDoor.PX

namespace Go.Proofs.YtkjgnnhpjcofiaaGreatDoor.PX.X
open Go Go.RowKit Go.Lib Go.Proofs.YtkjgnnhpjcofiaaGreatDoorW.PrintWords Go.Proofs.YtkjgnnhpjcofiaaGreatDoor.PX
set_option linter.unusedVariables false
set_option linter.unusedSimpArgs false
def ReadQ (base : Nat) (st : Value) (L out : List FileT) (c n' : Int) (vf : Value) (b : Nat) (w w' : World) : Prop := ∃ vf', w'.heap[b]? = some (.cells #[st, .int .i64 n', vf'] 104 (0, 0)) ∧ Two w w' b vf.ownBlock ∧ (c = 0 → Kd.R k75 75 w' base (fun _ => True) vf' (L ++ out) ∧ (vf'.ownBlock = vf.ownBlock ∨ ∃ j, vf'.ownBlock = some j ∧ w.heap.size ≤ j))
theorem readQ_of {base : Nat} {st : Value} {L out : List FileT} {c n' : Int} {vf : Value} {b : Nat} {w w' : World} (vf' : Value) (h1 : w'.heap[b]? = some (.cells #[st, .int .i64 n', vf'] 104 (0, 0))) (h2 : Two w w' b vf.ownBlock) (h3 : c = 0 → Kd.R k75 75 w' base (fun _ => True) vf' (L ++ out) ∧ (vf'.ownBlock = vf.ownBlock ∨ ∃ j, vf'.ownBlock = some j ∧ w.heap.size ≤ j)) : ReadQ base st L out c n' vf b w w' := ⟨vf', h1, h2, h3⟩
set_option maxHeartbeats 4000000 in
set_option maxRecDepth 100000 in
theorem readI_calls (K : Nat) (A0 : Option Addr) (c0 : Nat) (l0 : List S65) (gt : ByteArray → ByteArray × Bool) (de : ByteArray → List EntT × Bool) (w0 : World) (hr0 : Kd.C k65 w0 A0 l0.length l0) (hc0 : l0.length ≤ c0) (hgt : ∀ x, impl_get.f l0 2 x = some (gt x)) (hde : ∀ x, (gt x).2 = true → impl_decodeTree.f K (gt x).1 = some (de (gt x).1)) (G : GoodN (ndG gt de)) :
 ∀ (kq : Nat) (n : Int) (t p : ByteArray) (d c n' : Int) (out L : List FileT) (vf : Value) (w : World) (b : Nat), Below w0.heap.size w0 w → w0.heap.size ≤ b → w.heap[b]? = some (.cells #[.slice A0 l0.length c0, .int .i64 n, vf] 104 (0, 0)) → Kd.R k75 75 w w0.heap.size (fun _ => True) vf L →
  0 ≤ n → n ≤ 200 → 0 ≤ d → d ≤ 4 → (p.size : Int) ≤ 13 * d → (L.length : Int) + 100 * (200 - n) ≤ 20000 → walkV (ndG gt de) kq n t p d = some (c, n', out) →
  Calls Tryz.prog 77 #[.pointer (some ⟨b, 0, none⟩), .string t, .string p, .int .i64 d] w fun e w' => e = .returned (.int .i64 c) ∧ ReadQ w0.heap.size (.slice A0 l0.length c0) L out c n' vf b w w'
 | 0, n, t, p, d, c, n', out, L, vf, w, b, hw, hwb, hb, hR, hn0, hn2, hd0, hd4, hps, hL, h => by simp [walkV] at h
 | kq + 1, n, t, p, d, c, n', out, L, vf, w, b, hw, hwb, hb, hR, hn0, hn2, hd0, hd4, hps, hL, h => by
   have IH := Lib.hid (readI_calls K A0 c0 l0 gt de w0 hr0 hc0 hgt hde G kq)
   have HLN := Lib.hid (fun n t p d n' out => walkV_len G kq n t p d n' out)
   have HGET := Lib.hid (fun (W : World) (hW : Below w0.heap.size w0 W) => impl_get.calls A0 c0 l0 2 t (gt t).1 (gt t).2 W (Kd.C_below hr0 hW) hc0 (hgt t))
   have HDEC := Lib.hid (fun (hq : (gt t).2 = true) (W : World) => impl_decodeTree.calls K (gt t).1 (de (gt t).1).1 (de (gt t).1).2 W (hde t hq))
   have hnd : ndG gt de t = if (gt t).2 = true then (if (de (gt t).1).2 = true then (0, (de (gt t).1).1) else (5, [])) else (4, []) := rfl
   have hg1 := G.len t
   have hg2 := G.sz t
   rw [hnd] at hg1 hg2
   rw [walkV, hnd] at h
   clear hnd hr0 hc0 hgt hde G
   generalize walkV (ndG gt de) kq = gq at IH HLN h
   generalize gt t = g at HGET HDEC h hg1 hg2
   obtain ⟨D, gb⟩ := g
   simp only at HGET HDEC h hg1 hg2
   generalize de D = q at HDEC h hg1 hg2
   obtain ⟨es, db⟩ := q
   simp only at HDEC h hg1 hg2
   have HW := Lib.hid hw
   have HWB := Lib.hid hwb
   have HB := Lib.hid hb
   have HR := Lib.hid hR
   have HL := Lib.hid hL
   have HPS := Lib.hid hps
   have x0 := (blk_cell hb 0).trans rfl
   have x1 := (blk_cell hb 1).trans rfl
   have fr1 := blk_frozen hb 1
   clear hw hwb hb hR hL hps
   by_cases h200 : n = 200
   · subst h200
     rw [if_pos rfl] at h
     simp only [Option.some.injEq, Prod.mk.injEq] at h
     obtain ⟨rfl, rfl, rfl⟩ := h
     go_enter Tryz.func77, Tryz.ntmps77
     go_wp2
     go_ret
     exact ⟨rfl, readQ_of vf (HB.out) (two_refl _ _ _) (fun hc => absurd hc zq13)⟩
   · rw [if_neg h200] at h
     have hb1 : (w.setCell ⟨b, 1, none⟩ (.int .i64 (n + 1))).heap[b]? = some (.cells #[.slice A0 l0.length c0, .int .i64 (n + 1), vf] 104 (0, 0)) := blk_put (cs := #[.slice A0 l0.length c0, .int .i64 n, vf]) HB.out 1 (.int .i64 (n + 1)) rfl
     have HB1 := Lib.hid hb1
     have HW1 := Lib.hid (below_set (j := 1) (v := .int .i64 (n + 1)) HW.out HWB.out)
     have HT1 := Lib.hid (two_set (two_refl w b vf.ownBlock) 1 (.int .i64 (n + 1)))
     have z0 := (blk_cell hb1 0).trans rfl
     clear hb1
     cases gb with
     | false =>
       replace h : (some ((4 : Int), n + 1, ([] : List FileT)) : WalkT) = some (c, n', out) := h
       simp only [Option.some.injEq, Prod.mk.injEq] at h
       obtain ⟨rfl, rfl, rfl⟩ := h
       go_enter Tryz.func77, Tryz.ntmps77
       go_wp2_with (go_at_call 102; (with_reducible refine (HGET.out _ HW1.out).mono ?_); rintro e w2 ⟨rfl, hbb_⟩; have B2 := Lib.hid hbb_; clear hbb_)
       go_ret
       exact ⟨rfl, readQ_of vf (blk_below HB1.out B2.out) (two_below HT1.out B2.out) (fun hc => absurd hc zq13)⟩
     | true =>
       have HDC := Lib.hid (HDEC.out rfl)
       clear HDEC
       cases db with
       | false =>
         replace h : (some ((5 : Int), n + 1, ([] : List FileT)) : WalkT) = some (c, n', out) := h
         simp only [Option.some.injEq, Prod.mk.injEq] at h
         obtain ⟨rfl, rfl, rfl⟩ := h
         go_enter Tryz.func77, Tryz.ntmps77
         go_wp2_with (first
          | (go_at_call 102; (with_reducible refine (HGET.out _ HW1.out).mono ?_); rintro e w2 ⟨rfl, hbb_⟩; have B2 := Lib.hid hbb_; clear hbb_)
          | (go_at_call 126; (refine (HDC.out w2).mono ?_); rintro e w3 ⟨v3, rfl, hoo_, hbb_⟩; obtain ⟨A3, c3, rfl⟩ := Kd.R_slice hoo_; have B3 := Lib.hid hbb_; clear hbb_ hoo_))
         go_ret
         exact ⟨rfl, readQ_of vf (blk_below (blk_below HB1.out B2.out) B3.out) (two_below (two_below HT1.out B2.out) B3.out) (fun hc => absurd hc zq13)⟩
       | true =>
         replace h : walkE gq es (n + 1) p d = some (c, n', out) := h
         simp only [if_true] at hg1 hg2
         have HES := Lib.hid hg1
         have HSZ := Lib.hid hg2
         have HH := Lib.hid h
         clear hg1 hg2 h
         go_enter Tryz.func77, Tryz.ntmps77
         go_wp2_with (first
          | (go_at_call 102; (with_reducible refine (HGET.out _ HW1.out).mono ?_); rintro e w2 ⟨rfl, hbb_⟩; have B2 := Lib.hid hbb_; clear hbb_)
          | (go_at_call 126; (refine (HDC.out w2).mono ?_); rintro e w3 ⟨v3, rfl, hoo_, hbb_⟩; obtain ⟨A3, c3, rfl⟩ := Kd.R_slice hoo_; have O3 := Lib.hid hoo_; have B3 := Lib.hid hbb_; clear hbb_ hoo_))
         have HB3 := Lib.hid (blk_below (blk_below HB1.out B2.out) B3.out)
         have HT3 := Lib.hid (two_below (two_below HT1.out B2.out) B3.out)
         have HR3 := Lib.hid (Kd.R_below (Kd.R_below (R_blk HR.out HB.out zq13 1 (.int .i64 (n + 1))) B2.out) B3.out)
         have hw2 := HW1.out.trans (B2.out.mono HW1.out.size)
         have HW3 := Lib.hid (hw2.trans (B3.out.mono hw2.size))
         clear hw2 HW1 HT1 HB1 HGET HDC z0 x0 x1 fr1 HB HR
         go_loopg [48] es.length (fun gg s48 wr => ∃ (i : Nat) (ni : Int) (Li o : List FileT) (vi : Value), s48 = .int .i64 i ∧ i ≤ es.length ∧ es.length - i ≤ gg ∧ Aside (wr.heap[b]? = some (.cells #[.slice A0 l0.length c0, .int .i64 ni, vi] 104 (0, 0))) ∧ Aside (Kd.R k75 75 wr w0.heap.size (fun _ => True) vi Li) ∧ Aside (Kd.R k118 118 wr w2.heap.size (fun _ => True) (.slice A3 es.length c3) es) ∧ Aside (Two w wr b vf.ownBlock) ∧ Aside (Below w0.heap.size w0 wr) ∧ Aside (vi.ownBlock = vf.ownBlock ∨ ∃ j, vi.ownBlock = some j ∧ w.heap.size ≤ j) ∧ Aside (0 ≤ ni ∧ ni ≤ 200 ∧ (Li.length : Int) + 100 * (200 - ni) + ((es.length : Int) - i) ≤ 20000) ∧ Aside (walkE gq (es.drop i) ni p d = some (c, n', o)) ∧ Aside (c = 0 → Li ++ o = L ++ out))
         case atStart => exact ⟨0, n + 1, L, out, vf, rfl, Nat.zero_le _, by omega, HB3.out, HR3.out, O3.out, HT3.out, HW3.out, .inl rfl, (show _ ∧ _ ∧ _ from by have := HL.out; have := HES.out; refine ⟨?_, ?_, ?_⟩ <;> omega), HH.out, fun _ => rfl⟩
         case round =>
          clear HB3 HR3 O3 HT3 HH HW3
          rename World => wq
          obtain ⟨i, ni, Li, o, vi, rfl, hi, hgg, BB, RR, OE, TT, BW, OB, NN, WE, LO⟩ := hrel
          by_cases hlt : i < es.length
          · have hes := HES.out
            have hiz : (0 : Int) ≤ (i : Int) := Int.natCast_nonneg i
            have hil : (i : Int) < (es.length : Int) := by omega
            obtain ⟨ad, hA, q0, q1, q2⟩ := at_T118 (Kd.R_reads' OE.out).2.2 (i : Int) hiz hil
            subst hA
            rw [entAt, Int.toNat_natCast] at q0 q1 q2
            have hwe := WE.out
            rw [drop_ent es i hlt] at hwe
            have hxz := HSZ.out _ (ent_mem es i hlt)
            generalize es.getD i z118 = x at q0 q1 q2 hwe hxz
            have b0 := BB.out
            have x0 := (blk_cell b0 0).trans rfl
            have x2 := (blk_cell b0 2).trans rfl
            have HXZ := Lib.hid hxz
            clear b0 hxz WE
            by_cases hd : d = 4
            · subst hd
              rw [walkE, if_pos rfl] at hwe
              simp only [Option.some.injEq, Prod.mk.injEq] at hwe
              obtain ⟨rfl, rfl, rfl⟩ := hwe
              go_wp2_with ((with_reducible refine gate_dst (N := 14) rfl ?_); refine box_event ?hg (N := 14) ?hd (cs := #[.string (⟨#[]⟩ : ByteArray), .int .i64 0, .string (⟨#[]⟩ : ByteArray)]) (t := 118) ?hr ?_; (case hd => rfl); (case hg => rfl); (case hr => first | (go_simp; done) | (go_simp; rfl)); intro ge hge w4 hbox hb4; have HBX := Lib.hid hbox; have B4 := Lib.hid hb4; have HGE := Lib.hid hge; have y0 := (blk_cell hbox 0).trans rfl; have y1 := (blk_cell hbox 1).trans rfl; have y2 := (blk_cell hbox 2).trans rfl; have f0 := blk_frozen hbox 0; have f1 := blk_frozen hbox 1; have f2 := blk_frozen hbox 2; clear hbox hb4 hge)
              go_ret
              have hgq : wq.heap.size ≤ ge := Nat.le_of_eq HGE.out.symm
              have hb5 : Below wq.heap.size wq (((w4.setCell ⟨ge, 0, none⟩ (.string x.f0)).setCell ⟨ge, 1, none⟩ (.int .i64 x.f1)).setCell ⟨ge, 2, none⟩ (.string x.f2)) := below_set (below_set (below_set B4.out hgq) hgq) hgq
              exact ⟨rfl, readQ_of vi (blk_below BB.out hb5) (two_below TT.out hb5) (fun hc => absurd hc zq13)⟩
            · rw [walkE, if_neg hd] at hwe
              have hd3 : d + 1 ≤ 4 := by omega
              have hps := HPS.out
              have hxz := HXZ.out
              have g1 : (9223372036854775807 < p.size + x.f0.size) = False := eq_false zq7
              have g2 : (9223372036854775807 < p.size + x.f0.size + 1) = False := eq_false zq7
              have hpz : ((((p ++ x.f0) ++ (⟨#[47]⟩ : ByteArray)).size : Nat) : Int) ≤ 13 * (d + 1) := by
               rw [ByteArray.size_append, ByteArray.size_append, show (⟨#[47]⟩ : ByteArray).size = 1 from rfl]
               omega
              have HPZ := Lib.hid hpz
              clear hpz hps hxz
              by_cases hm : x.f1 = 3
              · rw [if_pos hm] at hwe
                obtain ⟨⟨k1, n1, o1⟩, hgo, hwe⟩ := Option.bind_eq_some_iff.mp hwe
                simp only at hwe
                have HGO := Lib.hid hgo
                clear hgo
                by_cases hk1 : k1 = 0
                · subst hk1
                  rw [if_pos rfl] at hwe
                  obtain ⟨⟨k2, n2, o2⟩, hg2, hwe⟩ := Option.bind_eq_some_iff.mp hwe
                  simp only [Option.some.injEq, Prod.mk.injEq] at hwe
                  obtain ⟨rfl, rfl, rfl⟩ := hwe
                  have HG2 := Lib.hid hg2
                  clear hg2
                  go_wp2_with (first
                   | ((with_reducible refine gate_dst (N := 14) rfl ?_); refine box_event ?hg (N := 14) ?hd (cs := #[.string (⟨#[]⟩ : ByteArray), .int .i64 0, .string (⟨#[]⟩ : ByteArray)]) (t := 118) ?hr ?_; (case hd => rfl); (case hg => rfl); (case hr => first | (go_simp; done) | (go_simp; rfl)); intro ge hge w4 hbox hb4; have HBX := Lib.hid hbox; have B4 := Lib.hid hb4; have HGE := Lib.hid hge; have y0 := (blk_cell hbox 0).trans rfl; have y1 := (blk_cell hbox 1).trans rfl; have y2 := (blk_cell hbox 2).trans rfl; have f0 := blk_frozen hbox 0; have f1 := blk_frozen hbox 1; have f2 := blk_frozen hbox 2; clear hbox hb4 hge)
                   | (go_at_call 77; (with_reducible refine (IH.out ni x.f2 ((p ++ x.f0) ++ (⟨#[47]⟩ : ByteArray)) (d + 1) 0 n1 o1 Li vi _ b ?a1 HWB.out ?a2 ?a3 NN.out.1 NN.out.2.1 zq7 hd3 HPZ.out ?a4 HGO.out).mono ?_); (case a1 => have hgq : wq.heap.size ≤ ge := Nat.le_of_eq HGE.out.symm; have hb5 : Below wq.heap.size wq (((w4.setCell ⟨ge, 0, none⟩ (.string x.f0)).setCell ⟨ge, 1, none⟩ (.int .i64 3)).setCell ⟨ge, 2, none⟩ (.string x.f2)) := below_set (below_set (below_set B4.out hgq) hgq) hgq; exact BW.out.trans (hb5.mono BW.out.size)); (case a2 => have hgq : wq.heap.size ≤ ge := Nat.le_of_eq HGE.out.symm; have hb5 : Below wq.heap.size wq (((w4.setCell ⟨ge, 0, none⟩ (.string x.f0)).setCell ⟨ge, 1, none⟩ (.int .i64 3)).setCell ⟨ge, 2, none⟩ (.string x.f2)) := below_set (below_set (below_set B4.out hgq) hgq) hgq; exact blk_below BB.out hb5); (case a3 => have hgq : wq.heap.size ≤ ge := Nat.le_of_eq HGE.out.symm; have hb5 : Below wq.heap.size wq (((w4.setCell ⟨ge, 0, none⟩ (.string x.f0)).setCell ⟨ge, 1, none⟩ (.int .i64 3)).setCell ⟨ge, 2, none⟩ (.string x.f2)) := below_set (below_set (below_set B4.out hgq) hgq) hgq; exact Kd.R_below RR.out hb5); (case a4 => (have := NN.out.2.2; omega)); rintro e w6 ⟨rfl, vg, hb6, ht6, hc6⟩; have hgq : wq.heap.size ≤ ge := Nat.le_of_eq HGE.out.symm; have hb5 : Below wq.heap.size wq (((w4.setCell ⟨ge, 0, none⟩ (.string x.f0)).setCell ⟨ge, 1, none⟩ (.int .i64 3)).setCell ⟨ge, 2, none⟩ (.string x.f2)) := below_set (below_set (below_set B4.out hgq) hgq) hgq; have B6 := Lib.hid hb6; have T6 := Lib.hid (show Two wq w6 b vi.ownBlock from two_trans (two_below (two_refl wq b vi.ownBlock) hb5) ht6 (.inl rfl)); have R6 := Lib.hid (hc6 rfl).1; have V6 := Lib.hid (show vg.ownBlock = vi.ownBlock ∨ ∃ j, vg.ownBlock = some j ∧ wq.heap.size ≤ j from (hc6 rfl).2.imp id (fun ⟨j, h1, h2⟩ => ⟨j, h1, Nat.le_trans hb5.size h2⟩)); clear hb5 hgq hb6 ht6 hc6))
                  go_roundg (es.length - (i + 1))
                  case measure => omega
                  case rel =>
                   exact ⟨i + 1, n1, Li ++ o1, o2, vg, by go_num, by omega, by omega, B6.out, R6.out, R_two OE.out T6.out BB.out RR.out zq13 zq13, two_trans TT.out T6.out OB.out, below_two BW.out T6.out BW.out.size HWB.out (fun j hj => Kd.R_base RR.out j hj), (show _ ∨ _ from by
                    rcases V6.out with hv | ⟨j, hj, hjj⟩
                    · rw [hv]; exact OB.out
                    · exact .inr ⟨j, hj, Nat.le_trans TT.out.size hjj⟩), (show _ ∧ _ ∧ _ from by
                    have h1 := NN.out
                    obtain ⟨h2, h3, h4⟩ := HLN.out ni x.f2 _ (d + 1) n1 o1 h1.2.1 HGO.out
                    rw [List.length_append]
                    refine ⟨?_, ?_, ?_⟩ <;> omega), HG2.out, (show _ → _ from fun hc => by rw [List.append_assoc]; exact LO.out hc)⟩
                · rw [if_neg hk1] at hwe
                  simp only [Option.some.injEq, Prod.mk.injEq] at hwe
                  obtain ⟨rfl, rfl, rfl⟩ := hwe
                  go_wp2_with (first
                   | ((with_reducible refine gate_dst (N := 14) rfl ?_); refine box_event ?hg (N := 14) ?hd (cs := #[.string (⟨#[]⟩ : ByteArray), .int .i64 0, .string (⟨#[]⟩ : ByteArray)]) (t := 118) ?hr ?_; (case hd => rfl); (case hg => rfl); (case hr => first | (go_simp; done) | (go_simp; rfl)); intro ge hge w4 hbox hb4; have HBX := Lib.hid hbox; have B4 := Lib.hid hb4; have HGE := Lib.hid hge; have y0 := (blk_cell hbox 0).trans rfl; have y1 := (blk_cell hbox 1).trans rfl; have y2 := (blk_cell hbox 2).trans rfl; have f0 := blk_frozen hbox 0; have f1 := blk_frozen hbox 1; have f2 := blk_frozen hbox 2; clear hbox hb4 hge)
                   | (go_at_call 77; (with_reducible refine (IH.out ni x.f2 ((p ++ x.f0) ++ (⟨#[47]⟩ : ByteArray)) (d + 1) k1 n1 o1 Li vi _ b ?a1 HWB.out ?a2 ?a3 NN.out.1 NN.out.2.1 zq7 hd3 HPZ.out ?a4 HGO.out).mono ?_); (case a1 => have hgq : wq.heap.size ≤ ge := Nat.le_of_eq HGE.out.symm; have hb5 : Below wq.heap.size wq (((w4.setCell ⟨ge, 0, none⟩ (.string x.f0)).setCell ⟨ge, 1, none⟩ (.int .i64 3)).setCell ⟨ge, 2, none⟩ (.string x.f2)) := below_set (below_set (below_set B4.out hgq) hgq) hgq; exact BW.out.trans (hb5.mono BW.out.size)); (case a2 => have hgq : wq.heap.size ≤ ge := Nat.le_of_eq HGE.out.symm; have hb5 : Below wq.heap.size wq (((w4.setCell ⟨ge, 0, none⟩ (.string x.f0)).setCell ⟨ge, 1, none⟩ (.int .i64 3)).setCell ⟨ge, 2, none⟩ (.string x.f2)) := below_set (below_set (below_set B4.out hgq) hgq) hgq; exact blk_below BB.out hb5); (case a3 => have hgq : wq.heap.size ≤ ge := Nat.le_of_eq HGE.out.symm; have hb5 : Below wq.heap.size wq (((w4.setCell ⟨ge, 0, none⟩ (.string x.f0)).setCell ⟨ge, 1, none⟩ (.int .i64 3)).setCell ⟨ge, 2, none⟩ (.string x.f2)) := below_set (below_set (below_set B4.out hgq) hgq) hgq; exact Kd.R_below RR.out hb5); (case a4 => (have := NN.out.2.2; omega)); rintro e w6 ⟨rfl, vg, hb6, ht6, hc6⟩; have hgq : wq.heap.size ≤ ge := Nat.le_of_eq HGE.out.symm; have hb5 : Below wq.heap.size wq (((w4.setCell ⟨ge, 0, none⟩ (.string x.f0)).setCell ⟨ge, 1, none⟩ (.int .i64 3)).setCell ⟨ge, 2, none⟩ (.string x.f2)) := below_set (below_set (below_set B4.out hgq) hgq) hgq; have B6 := Lib.hid hb6; have T6 := Lib.hid (show Two wq w6 b vi.ownBlock from two_trans (two_below (two_refl wq b vi.ownBlock) hb5) ht6 (.inl rfl)); clear hb5 hgq hb6 ht6 hc6))
                  go_ret
                  exact ⟨rfl, readQ_of vg (B6.out) (two_trans TT.out T6.out OB.out) (fun hc => absurd hc hk1)⟩
              · rw [if_neg hm] at hwe
                obtain ⟨⟨k2, n2, o2⟩, hg2, hwe⟩ := Option.bind_eq_some_iff.mp hwe
                simp only [Option.some.injEq, Prod.mk.injEq] at hwe
                obtain ⟨rfl, rfl, rfl⟩ := hwe
                have HG2 := Lib.hid hg2
                clear hg2
                go_wp2_with ((with_reducible refine gate_dst (N := 14) rfl ?_); refine box_event ?hg (N := 14) ?hd (cs := #[.string (⟨#[]⟩ : ByteArray), .int .i64 0, .string (⟨#[]⟩ : ByteArray)]) (t := 118) ?hr ?_; (case hd => rfl); (case hg => rfl); (case hr => first | (go_simp; done) | (go_simp; rfl)); intro ge hge w4 hbox hb4; have HBX := Lib.hid hbox; have B4 := Lib.hid hb4; have HGE := Lib.hid hge; have y0 := (blk_cell hbox 0).trans rfl; have y1 := (blk_cell hbox 1).trans rfl; have y2 := (blk_cell hbox 2).trans rfl; have f0 := blk_frozen hbox 0; have f1 := blk_frozen hbox 1; have f2 := blk_frozen hbox 2; clear hbox hb4 hge)
                have hgq : wq.heap.size ≤ ge := Nat.le_of_eq HGE.out.symm
                have hb5 : Below wq.heap.size wq (((w4.setCell ⟨ge, 0, none⟩ (.string x.f0)).setCell ⟨ge, 1, none⟩ (.int .i64 x.f1)).setCell ⟨ge, 2, none⟩ (.string x.f2)) := below_set (below_set (below_set B4.out hgq) hgq) hgq
                have hbk5 := blk_three HBX.out (.string x.f0) (.int .i64 x.f1) (.string x.f2)
                generalize (((w4.setCell ⟨ge, 0, none⟩ (.string x.f0)).setCell ⟨ge, 1, none⟩ (.int .i64 x.f1)).setCell ⟨ge, 2, none⟩ (.string x.f2)) = W5 at hb5 hbk5 ⊢
                have R5 := Lib.hid (Kd.R_below RR.out hb5)
                have BW5 := Lib.hid (BW.out.trans (hb5.mono BW.out.size))
                have HB5 := Lib.hid hb5
                have HNE := Lib.hid (show some ge ≠ vi.ownBlock from fun z => by have := Kd.R_lt RR.out ge z.symm; omega)
                have bb5 := blk_below BB.out hb5
                have HBB := Lib.hid bb5
                have HNB := Lib.hid (Kd.R_ne R5.out bb5 zq13)
                have HGB := Lib.hid (show ge ≠ b from fun z => by have := (Array.getElem?_eq_some_iff.1 BB.out).1; omega)
                have z2 : W5.drew.cell? ⟨b, 2, none⟩ = some vi := (blk_cell bb5 2).trans rfl
                have HZ2 := Lib.hid z2
                have g0 : W5.drew.cell? ⟨ge, 0, none⟩ = some (.string x.f0) := (blk_cell hbk5 0).trans rfl
                have g3 : W5.drew.cell? ⟨ge, 1, none⟩ = some (.int .i64 x.f1) := (blk_cell hbk5 1).trans rfl
                have g4 : W5.drew.cell? ⟨ge, 2, none⟩ = some (.string x.f2) := (blk_cell hbk5 2).trans rfl
                have HLN2 := Lib.hid (show Li.length + 1 ≤ 20001 from by have := NN.out; omega)
                clear q0 q1 q2 y0 y1 y2 f0 f1 f2 x0 x2 HBX B4 bb5 hbk5 hb5
                refine wp_region_noPanic ?_
                refine wp_region_held_drew (S := fun w' => w'.cell? ⟨ge, 0, none⟩ = some (.string x.f0) ∧ w'.cell? ⟨ge, 1, none⟩ = some (.int .i64 x.f1) ∧ w'.cell? ⟨ge, 2, none⟩ = some (.string x.f2)) zq3 ⟨g0, g3, g4⟩ ?_
                intro hS0
                generalize hLL : Array.replicate _ false = lst
                obtain rfl : lst = #[false, false, false, false, false, false, false, false, false, false, false, false, false, false, false, false, false, false, false] := hLL.symm.trans zq3
                clear hLL
                refine wpAnyH_take (i := 0) (v := ?_) rfl zq3 zq3 zq3 (fun _ _ _ h => (h : False).elim) (Or.inl ⟨by kernel_rfl, ?_⟩) zq9 ?_; rotate_left; (intro w' hSw; (try dsimp only at hSw); go_simp; (first | done | with_reducible rfl)); simp only [Act.put, List.setIfInBounds_toArray, List.set_cons_zero, List.set_cons_succ, List.getElem_toArray, List.getElem_cons_zero, List.getElem_cons_succ]
                refine wpAnyH_take (i := 1) (v := ?_) rfl zq3 zq3 zq3 (fun _ _ _ h => (h : False).elim) (Or.inl ⟨by kernel_rfl, ?_⟩) zq9 ?_; rotate_left; (intro w' hSw; (try dsimp only at hSw); go_simp; (first | done | with_reducible rfl)); simp only [Act.put, List.setIfInBounds_toArray, List.set_cons_zero, List.set_cons_succ, List.getElem_toArray, List.getElem_cons_zero, List.getElem_cons_succ]
                refine wpAnyH_take (i := 2) (v := ?_) rfl zq3 zq3 zq3 (fun _ _ _ h => (h : False).elim) (Or.inl ⟨by kernel_rfl, ?_⟩) zq9 ?_; rotate_left; (intro w' hSw; (try dsimp only at hSw); go_simp; (first | done | with_reducible rfl)); simp only [Act.put, List.setIfInBounds_toArray, List.set_cons_zero, List.set_cons_succ, List.getElem_toArray, List.getElem_cons_zero, List.getElem_cons_succ]
                refine wpAnyH_take (i := 3) (v := ?_) rfl zq3 zq3 zq3 (fun _ _ _ h => (h : False).elim) (Or.inl ⟨by kernel_rfl, ?_⟩) zq9 ?_; rotate_left; (intro w' hSw; (try dsimp only at hSw); go_simp; (first | done | with_reducible rfl)); simp only [Act.put, List.setIfInBounds_toArray, List.set_cons_zero, List.set_cons_succ, List.getElem_toArray, List.getElem_cons_zero, List.getElem_cons_succ]
                refine wpAnyH_take (i := 5) (v := ?_) rfl zq3 zq3 zq3 (fun _ _ _ h => (h : False).elim) (Or.inl ⟨by kernel_rfl, ?_⟩) zq9 ?_; rotate_left; (intro w' hSw; (try dsimp only at hSw); go_simp; (first | done | with_reducible rfl)); simp only [Act.put, List.setIfInBounds_toArray, List.set_cons_zero, List.set_cons_succ, List.getElem_toArray, List.getElem_cons_zero, List.getElem_cons_succ]
                refine wpAnyH_take (i := 6) (v := ?_) rfl zq3 zq3 zq3 (fun _ _ _ h => (h : False).elim) (Or.inl ⟨by kernel_rfl, ?_⟩) zq9 ?_; rotate_left; (intro w' hSw; (try dsimp only at hSw); go_simp; (first | done | with_reducible rfl)); simp only [Act.put, List.setIfInBounds_toArray, List.set_cons_zero, List.set_cons_succ, List.getElem_toArray, List.getElem_cons_zero, List.getElem_cons_succ]
                refine wpAnyH_take (i := 7) (v := ?_) rfl zq3 zq3 zq3 (fun _ _ _ h => (h : False).elim) (Or.inl ⟨by kernel_rfl, ?_⟩) zq9 ?_; rotate_left; (intro w' hSw; (try dsimp only at hSw); go_simp; (first | done | with_reducible rfl)); simp only [Act.put, List.setIfInBounds_toArray, List.set_cons_zero, List.set_cons_succ, List.getElem_toArray, List.getElem_cons_zero, List.getElem_cons_succ]
                refine wpAnyH_take (i := 8) (v := ?_) rfl zq3 zq3 zq3 (fun _ _ _ h => (h : False).elim) (Or.inl ⟨by kernel_rfl, ?_⟩) zq9 ?_; rotate_left; (intro w' hSw; (try dsimp only at hSw); go_simp; (first | done | with_reducible rfl)); simp only [Act.put, List.setIfInBounds_toArray, List.set_cons_zero, List.set_cons_succ, List.getElem_toArray, List.getElem_cons_zero, List.getElem_cons_succ]
                refine wpAnyH_take (i := 9) (v := ?_) rfl zq3 zq3 zq3 (fun _ _ _ h => (h : False).elim) (Or.inl ⟨by kernel_rfl, ?_⟩) zq9 ?_; rotate_left; (intro w' hSw; (try dsimp only at hSw); go_simp; (first | done | with_reducible rfl)); simp only [Act.put, List.setIfInBounds_toArray, List.set_cons_zero, List.set_cons_succ, List.getElem_toArray, List.getElem_cons_zero, List.getElem_cons_succ]
                refine wpAnyH_take (i := 10) (v := ?_) rfl zq3 zq3 zq3 (fun _ _ _ h => (h : False).elim) (Or.inl ⟨by kernel_rfl, ?_⟩) zq9 ?_; rotate_left; (intro w' hSw; (try dsimp only at hSw); go_simp; (first | done | with_reducible rfl)); simp only [Act.put, List.setIfInBounds_toArray, List.set_cons_zero, List.set_cons_succ, List.getElem_toArray, List.getElem_cons_zero, List.getElem_cons_succ]
                refine wpAnyH_take (i := 11) (v := ?_) rfl zq3 zq3 zq3 (fun _ _ _ h => (h : False).elim) (Or.inl ⟨by kernel_rfl, ?_⟩) zq9 ?_; rotate_left; (intro w' hSw; (try dsimp only at hSw); go_simp; (first | done | with_reducible rfl)); simp only [Act.put, List.setIfInBounds_toArray, List.set_cons_zero, List.set_cons_succ, List.getElem_toArray, List.getElem_cons_zero, List.getElem_cons_succ]
                refine wpAnyH_take (i := 12) (v := ?_) rfl zq3 zq3 zq3 (fun _ _ _ h => (h : False).elim) (Or.inl ⟨by kernel_rfl, ?_⟩) zq9 ?_; rotate_left; (intro w' hSw; (try dsimp only at hSw); go_simp; (first | done | with_reducible rfl)); simp only [Act.put, List.setIfInBounds_toArray, List.set_cons_zero, List.set_cons_succ, List.getElem_toArray, List.getElem_cons_zero, List.getElem_cons_succ]
                refine wpAnyH_take (i := 13) (v := ?_) rfl zq3 zq3 zq3 (fun _ _ _ h => (h : False).elim) (Or.inl ⟨by kernel_rfl, ?_⟩) zq9 ?_; rotate_left; (intro w' hSw; (try dsimp only at hSw); go_simp; (first | done | with_reducible rfl)); simp only [Act.put, List.setIfInBounds_toArray, List.set_cons_zero, List.set_cons_succ, List.getElem_toArray, List.getElem_cons_zero, List.getElem_cons_succ]
                refine wpAnyH_ready (rs := [4, 14]) zq3 zq16 ?_
                refine AllReadyH.cons rfl (fun K hK => ?_) (AllReadyH.cons rfl (fun K hK => ?_) AllReadyH.nil)
                · go_simp
                  refine hK.out _ _ hS0 (fun hS1 => ?_)
                  clear hK
                  try simp only [Act.put, List.setIfInBounds_toArray, List.set_cons_zero, List.set_cons_succ, List.getElem_toArray, List.getElem_cons_zero, List.getElem_cons_succ]
                  refine wpAnyH_ready (rs := [14]) zq3 zq16 ?_
                  refine AllReadyH.cons rfl (fun K hK => ?_) AllReadyH.nil
                  go_simp
                  refine hK.out _ _ (keepR hS1 (below_alloc (Below.refl _ _) _)) (fun hS2 => ?_)
                  clear hK hS1
                  try simp only [Act.put, List.setIfInBounds_toArray, List.set_cons_zero, List.set_cons_succ, List.getElem_toArray, List.getElem_cons_zero, List.getElem_cons_succ]
                  refine wpAnyH_ready (rs := [15]) zq3 zq16 ?_
                  refine AllReadyH.cons rfl (fun K hK => ?_) AllReadyH.nil
                  refine Kd.R_append_rows_step k75 (w0 := w0) w0.heap.size zq28 (.tmp 61) (.tmp 71) 24 75 (.agg #[.string ⟨#[]⟩, .int .i64 0, .string ⟨#[]⟩]) 40 zq28 Tryz.underlying24 info75 rfl zq13 zq13 vi Li [(⟨p ++ x.f0, x.f1, x.f2⟩ : FileT)] (some ⟨W5.drew.heap.size, 0, none⟩) 1 1 (fun _ => True) (fun _ => False) zq28 zq28 (Kd.R_alloc (Kd.R_drew R5.out) _) (C_oneF (blk_new _ _)) (fun _ _ h => h) (fun _ h => h.elim) (fun _ _ => trivial) (below_alloc (below_drew1 BW5.out) _) (below_size (below_alloc (below_drew1 BW5.out) _)) (by have := HLN2.out; omega) ?_
                  intro v1 w7 ho7 hb7 hg7 hat7
                  obtain ⟨L7, hL7⟩ : ∃ q, Li ++ [(⟨p ++ x.f0, x.f1, x.f2⟩ : FileT)] = q := ⟨_, rfl⟩
                  rw [hL7] at ho7
                  have HL7 := Lib.hid hL7
                  clear hL7
                  obtain ⟨A7, c7, rfl⟩ := Kd.R_slice ho7
                  have s0 := hg7.cell hS2.1 HNE.out
                  have s1 := hg7.cell hS2.2.1 HNE.out
                  have s2 := hg7.cell hS2.2.2 HNE.out
                  refine hK.out _ _ ⟨s0, s1, s2⟩ (fun hS3 => ?_)
                  clear hK hS2 s0 s1 s2
                  try simp only [Act.put, List.setIfInBounds_toArray, List.set_cons_zero, List.set_cons_succ, List.getElem_toArray, List.getElem_cons_zero, List.getElem_cons_succ]
                  refine wpAnyH_take (i := 16) (v := ?_) rfl zq3 zq3 zq3 (fun _ _ _ h => (h : False).elim) (Or.inl ⟨by kernel_rfl, ?_⟩) zq9 ?_; rotate_left; (intro w' hSw; (try dsimp only at hSw); go_simp; (first | done | with_reducible rfl)); simp only [Act.put, List.setIfInBounds_toArray, List.set_cons_zero, List.set_cons_succ, List.getElem_toArray, List.getElem_cons_zero, List.getElem_cons_succ]
                  refine wpAnyH_take (i := 17) (v := ?_) rfl zq3 zq3 zq3 (fun _ _ _ h => (h : False).elim) (Or.inl ⟨by kernel_rfl, ?_⟩) zq9 ?_; rotate_left; (intro w' hSw; (try dsimp only at hSw); go_simp; (first | done | with_reducible rfl)); simp only [Act.put, List.setIfInBounds_toArray, List.set_cons_zero, List.set_cons_succ, List.getElem_toArray, List.getElem_cons_zero, List.getElem_cons_succ]
                  have hd7 : Below wq.heap.size wq (W5.drew.alloc (.cells #[.string (p ++ x.f0), .int .i64 x.f1, .string x.f2] 75 (0, 0))) := below_alloc (below_drew1 HB5.out) _
                  have hb7 : w7.heap[b]? = some (.cells #[.slice A0 l0.length c0, .int .i64 ni, vi] 104 (0, 0)) := (hg7.block b (Nat.lt_of_lt_of_le (Array.getElem?_eq_some_iff.1 BB.out).1 hd7.size) HNB.out).trans (blk_below BB.out hd7)
                  have t2 := (blk_cell hb7 2).trans rfl
                  have t3 := blk_frozen hb7 2
                  have B7 := Lib.hid hb7
                  have T8 := Lib.hid (show Two wq (w7.setCell ⟨b, 2, none⟩ (.slice A7 L7.length c7)) b vi.ownBlock from two_set (two_grown (two_below (two_refl wq b vi.ownBlock) hd7) hg7 (.inl rfl)) 2 (.slice A7 L7.length c7))
                  have O8 := Lib.hid (R_blk ho7 hb7 zq13 2 (.slice A7 L7.length c7))
                  have V8 := Lib.hid (show (Value.slice A7 L7.length c7).ownBlock = vi.ownBlock ∨ ∃ j, (Value.slice A7 L7.length c7).ownBlock = some j ∧ wq.heap.size ≤ j from hat7.imp id (fun ⟨j, h1, h2⟩ => ⟨j, h1, Nat.le_trans hd7.size h2⟩))
                  clear hb7 hg7 hat7 ho7 hd7
                  refine wpAnyH_ready (rs := [18]) zq3 zq16 ?_
                  refine AllReadyH.cons rfl (fun K hK => ?_) AllReadyH.nil
                  go_simp
                  refine hK.out _ _ ⟨(cell_far (a := ⟨ge, 0, none⟩) (p := ⟨b, 2, none⟩) HGB.out _).trans hS3.1, (cell_far (a := ⟨ge, 1, none⟩) (p := ⟨b, 2, none⟩) HGB.out _).trans hS3.2.1, (cell_far (a := ⟨ge, 2, none⟩) (p := ⟨b, 2, none⟩) HGB.out _).trans hS3.2.2⟩ (fun hS4 => ?_)
                  clear hK hS3 hS4 t2 t3
                  try simp only [Act.put, List.setIfInBounds_toArray, List.set_cons_zero, List.set_cons_succ, List.getElem_toArray, List.getElem_cons_zero, List.getElem_cons_succ]
                  refine wpAnyH_done zq3 ?_ _
                  refine NoPanic.normal ?_
                  have B8 := Lib.hid (show (w7.setCell ⟨b, 2, none⟩ (.slice A7 L7.length c7)).heap[b]? = some (.cells #[.slice A0 l0.length c0, .int .i64 ni, .slice A7 L7.length c7] 104 (0, 0)) from blk_put B7.out 2 (.slice A7 L7.length c7) rfl)
                  clear B7
                  generalize w7.setCell ⟨b, 2, none⟩ (.slice A7 L7.length c7) = w8 at B8 T8 O8 ⊢
                  go_wp2
                  go_roundg (es.length - (i + 1))
                  case measure => omega
                  case rel =>
                   exact ⟨i + 1, ni, L7, o2, .slice A7 L7.length c7, by go_num, by omega, by omega, B8.out, O8.out, R_two OE.out T8.out BB.out RR.out zq13 zq13, two_trans TT.out T8.out OB.out, below_two BW.out T8.out BW.out.size HWB.out (fun j hj => Kd.R_base RR.out j hj), (show _ ∨ _ from by
                    rcases V8.out with hv | ⟨j, hj, hjj⟩
                    · rw [hv]; exact OB.out
                    · exact .inr ⟨j, hj, Nat.le_trans TT.out.size hjj⟩), (show _ ∧ _ ∧ _ from by
                    have h1 := NN.out
                    rw [← HL7.out, List.length_append, List.length_singleton]
                    refine ⟨?_, ?_, ?_⟩ <;> omega), HG2.out, (show _ → _ from fun hc => by rw [← HL7.out, List.append_assoc]; exact LO.out hc)⟩
                · go_simp
                  refine hK.out _ _ (keepR hS0 (below_alloc (Below.refl _ _) _)) (fun hS2 => ?_)
                  clear hK
                  try simp only [Act.put, List.setIfInBounds_toArray, List.set_cons_zero, List.set_cons_succ, List.getElem_toArray, List.getElem_cons_zero, List.getElem_cons_succ]
                  have z4 : (W5.drew.alloc (.cells #[.string (p ++ x.f0), .int .i64 x.f1, .string x.f2] 75 (0, 0))).cell? ⟨b, 2, none⟩ = some vi := kcW HZ2.out (below_alloc (Below.refl _ _) _)
                  have z3 : (W5.alloc (.cells #[.string (p ++ x.f0), .int .i64 x.f1, .string x.f2] 75 (0, 0))).cell? ⟨b, 2, none⟩ = some vi := z4
                  clear z4
                  refine wpAnyH_ready (rs := [4]) zq3 zq16 ?_
                  refine AllReadyH.cons rfl (fun K hK => ?_) AllReadyH.nil
                  go_simp
                  refine hK.out _ _ hS2 (fun hS2 => ?_)
                  clear hK z3
                  try simp only [Act.put, List.setIfInBounds_toArray, List.set_cons_zero, List.set_cons_succ, List.getElem_toArray, List.getElem_cons_zero, List.getElem_cons_succ]
                  refine wpAnyH_ready (rs := [15]) zq3 zq16 ?_
                  refine AllReadyH.cons rfl (fun K hK => ?_) AllReadyH.nil
                  refine Kd.R_append_rows_step k75 (w0 := w0) w0.heap.size zq28 (.tmp 61) (.tmp 71) 24 75 (.agg #[.string ⟨#[]⟩, .int .i64 0, .string ⟨#[]⟩]) 40 zq28 Tryz.underlying24 info75 rfl zq13 zq13 vi Li [(⟨p ++ x.f0, x.f1, x.f2⟩ : FileT)] (some ⟨W5.drew.heap.size, 0, none⟩) 1 1 (fun _ => True) (fun _ => False) zq28 zq28 (Kd.R_alloc (Kd.R_drew R5.out) _) (C_oneF (blk_new _ _)) (fun _ _ h => h) (fun _ h => h.elim) (fun _ _ => trivial) (below_alloc (below_drew1 BW5.out) _) (below_size (below_alloc (below_drew1 BW5.out) _)) (by have := HLN2.out; omega) ?_
                  intro v1 w7 ho7 hb7 hg7 hat7
                  obtain ⟨L7, hL7⟩ : ∃ q, Li ++ [(⟨p ++ x.f0, x.f1, x.f2⟩ : FileT)] = q := ⟨_, rfl⟩
                  rw [hL7] at ho7
                  have HL7 := Lib.hid hL7
                  clear hL7
                  obtain ⟨A7, c7, rfl⟩ := Kd.R_slice ho7
                  have s0 := hg7.cell hS2.1 HNE.out
                  have s1 := hg7.cell hS2.2.1 HNE.out
                  have s2 := hg7.cell hS2.2.2 HNE.out
                  refine hK.out _ _ ⟨s0, s1, s2⟩ (fun hS3 => ?_)
                  clear hK hS2 s0 s1 s2
                  try simp only [Act.put, List.setIfInBounds_toArray, List.set_cons_zero, List.set_cons_succ, List.getElem_toArray, List.getElem_cons_zero, List.getElem_cons_succ]
                  refine wpAnyH_take (i := 16) (v := ?_) rfl zq3 zq3 zq3 (fun _ _ _ h => (h : False).elim) (Or.inl ⟨by kernel_rfl, ?_⟩) zq9 ?_; rotate_left; (intro w' hSw; (try dsimp only at hSw); go_simp; (first | done | with_reducible rfl)); simp only [Act.put, List.setIfInBounds_toArray, List.set_cons_zero, List.set_cons_succ, List.getElem_toArray, List.getElem_cons_zero, List.getElem_cons_succ]
                  refine wpAnyH_take (i := 17) (v := ?_) rfl zq3 zq3 zq3 (fun _ _ _ h => (h : False).elim) (Or.inl ⟨by kernel_rfl, ?_⟩) zq9 ?_; rotate_left; (intro w' hSw; (try dsimp only at hSw); go_simp; (first | done | with_reducible rfl)); simp only [Act.put, List.setIfInBounds_toArray, List.set_cons_zero, List.set_cons_succ, List.getElem_toArray, List.getElem_cons_zero, List.getElem_cons_succ]
                  have hd7 : Below wq.heap.size wq (W5.drew.alloc (.cells #[.string (p ++ x.f0), .int .i64 x.f1, .string x.f2] 75 (0, 0))) := below_alloc (below_drew1 HB5.out) _
                  have hb7 : w7.heap[b]? = some (.cells #[.slice A0 l0.length c0, .int .i64 ni, vi] 104 (0, 0)) := (hg7.block b (Nat.lt_of_lt_of_le (Array.getElem?_eq_some_iff.1 BB.out).1 hd7.size) HNB.out).trans (blk_below BB.out hd7)
                  have t2 := (blk_cell hb7 2).trans rfl
                  have t3 := blk_frozen hb7 2
                  have B7 := Lib.hid hb7
                  have T8 := Lib.hid (show Two wq (w7.setCell ⟨b, 2, none⟩ (.slice A7 L7.length c7)) b vi.ownBlock from two_set (two_grown (two_below (two_refl wq b vi.ownBlock) hd7) hg7 (.inl rfl)) 2 (.slice A7 L7.length c7))
                  have O8 := Lib.hid (R_blk ho7 hb7 zq13 2 (.slice A7 L7.length c7))
                  have V8 := Lib.hid (show (Value.slice A7 L7.length c7).ownBlock = vi.ownBlock ∨ ∃ j, (Value.slice A7 L7.length c7).ownBlock = some j ∧ wq.heap.size ≤ j from hat7.imp id (fun ⟨j, h1, h2⟩ => ⟨j, h1, Nat.le_trans hd7.size h2⟩))
                  clear hb7 hg7 hat7 ho7 hd7
                  refine wpAnyH_ready (rs := [18]) zq3 zq16 ?_
                  refine AllReadyH.cons rfl (fun K hK => ?_) AllReadyH.nil
                  go_simp
                  refine hK.out _ _ ⟨(cell_far (a := ⟨ge, 0, none⟩) (p := ⟨b, 2, none⟩) HGB.out _).trans hS3.1, (cell_far (a := ⟨ge, 1, none⟩) (p := ⟨b, 2, none⟩) HGB.out _).trans hS3.2.1, (cell_far (a := ⟨ge, 2, none⟩) (p := ⟨b, 2, none⟩) HGB.out _).trans hS3.2.2⟩ (fun hS4 => ?_)
                  clear hK hS3 hS4 t2 t3
                  try simp only [Act.put, List.setIfInBounds_toArray, List.set_cons_zero, List.set_cons_succ, List.getElem_toArray, List.getElem_cons_zero, List.getElem_cons_succ]
                  refine wpAnyH_done zq3 ?_ _
                  refine NoPanic.normal ?_
                  have B8 := Lib.hid (show (w7.setCell ⟨b, 2, none⟩ (.slice A7 L7.length c7)).heap[b]? = some (.cells #[.slice A0 l0.length c0, .int .i64 ni, .slice A7 L7.length c7] 104 (0, 0)) from blk_put B7.out 2 (.slice A7 L7.length c7) rfl)
                  clear B7
                  generalize w7.setCell ⟨b, 2, none⟩ (.slice A7 L7.length c7) = w8 at B8 T8 O8 ⊢
                  go_wp2
                  go_roundg (es.length - (i + 1))
                  case measure => omega
                  case rel =>
                   exact ⟨i + 1, ni, L7, o2, .slice A7 L7.length c7, by go_num, by omega, by omega, B8.out, O8.out, R_two OE.out T8.out BB.out RR.out zq13 zq13, two_trans TT.out T8.out OB.out, below_two BW.out T8.out BW.out.size HWB.out (fun j hj => Kd.R_base RR.out j hj), (show _ ∨ _ from by
                    rcases V8.out with hv | ⟨j, hj, hjj⟩
                    · rw [hv]; exact OB.out
                    · exact .inr ⟨j, hj, Nat.le_trans TT.out.size hjj⟩), (show _ ∧ _ ∧ _ from by
                    have h1 := NN.out
                    rw [← HL7.out, List.length_append, List.length_singleton]
                    refine ⟨?_, ?_, ?_⟩ <;> omega), HG2.out, (show _ → _ from fun hc => by rw [← HL7.out, List.append_assoc]; exact LO.out hc)⟩
          · have hil : ¬ (i : Int) < (es.length : Int) := by omega
            have hwe := WE.out
            rw [List.drop_eq_nil_of_le zq7] at hwe
            simp only [walkE, Option.some.injEq, Prod.mk.injEq] at hwe
            obtain ⟨rfl, rfl, rfl⟩ := hwe
            have hlo := LO.out rfl
            rw [List.append_nil] at hlo
            subst hlo
            clear WE
            go_wp2
            go_ret
            exact ⟨rfl, readQ_of vi BB.out TT.out (fun _ => ⟨RR.out, OB.out⟩)⟩
end Go.Proofs.YtkjgnnhpjcofiaaGreatDoor.PX.X
