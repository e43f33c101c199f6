/- Texts of this claim set one behind another by wip/bundle.py: XStI, PXf43. -/
import Derived.Test.YtkjgnnhpjcofiaaGreatDoorBReadFiles19
import Derived.Test.YtkjgnnhpjcofiaaGreatDoorBReadFiles29
import Derived.Test.YtkjgnnhpjcofiaaGreatDoorBReadFiles37
import Derived.Test.YtkjgnnhpjcofiaaGreatDoorBReadFiles8
import Derived.Test.YtkjgnnhpjcofiaaGreatDoorBReadFiles4
import Derived.Test.YtkjgnnhpjcofiaaGreatDoorBReadFiles14
namespace Go.Proofs.YtkjgnnhpjcofiaaGreatDoor.PX.X
open Go Go.RowKit Go.Lib Go.Proofs.YtkjgnnhpjcofiaaGreatDoorW.PrintWords Go.Proofs.YtkjgnnhpjcofiaaGreatDoor.PX
set_option linter.unusedVariables false
theorem keepP {a b c d : Addr} {va vb vc vd : Value} {W w' w'' : World} (h : w'.cell? a = some va ∧ w'.cell? b = some vb ∧ w'.cell? c = some vc ∧ w'.cell? d = some vd ∧ Below W.heap.size W w') (hb : Below w'.heap.size w' w'') : w''.cell? a = some va ∧ w''.cell? b = some vb ∧ w''.cell? c = some vc ∧ w''.cell? d = some vd ∧ Below W.heap.size W w'' :=
 ⟨(hb.cell (World.block_lt_of_cell? w' _ h.1)).trans h.1, (hb.cell (World.block_lt_of_cell? w' _ h.2.1)).trans h.2.1, (hb.cell (World.block_lt_of_cell? w' _ h.2.2.1)).trans h.2.2.1, (hb.cell (World.block_lt_of_cell? w' _ h.2.2.2.1)).trans h.2.2.2.1, h.2.2.2.2.trans (hb.mono h.2.2.2.2.size)⟩
end Go.Proofs.YtkjgnnhpjcofiaaGreatDoor.PX.X

namespace Go.Proofs.YtkjgnnhpjcofiaaGreatDoor.PX
open Go.RowKit Go.Proofs.YtkjgnnhpjcofiaaGreatDoorW.PrintWords Go.Proofs.YtkjgnnhpjcofiaaGreatDoorW.PrintLast Go.Proofs.YtkjgnnhpjcofiaaGreatDoorW.PrintMore
attribute [local go_sem] max2_int min2_int max_two min_two max_three min_three max_four min_four   -- for this text's walks alone
set_option linter.unusedVariables false
set_option linter.unusedSimpArgs false
def impl_StoreFault.l0 : Nat → List (S65) → List (S65) → Int → Int → Option (Int)
 | 0, _, _, _, _ => none
 | k + 1, x0, x9, x10, x11 => if x11 < x10 then (if 0 ≤ x11 then (if x11 < (x9.length : Int) then ((impl_dataCode.f k ((rd_T65 x9 x11).f1) ((rd_T65 x9 x11).f2)).bind fun t246 => (if t246 = 0 then ((impl_idOf.f k ((rd_T65 x9 x11).f1) ((rd_T65 x9 x11).f2)).bind fun t247 => (if ((rd_T65 x9 x11).f0).toList = t247.toList then (if x11 > 0 then (if 0 ≤ (wrap64 (x11 - 1)) then (if (wrap64 (x11 - 1)) < (x0.length : Int) then (if ((Op.bytesLess (((rd_T65 x0 (wrap64 (x11 - 1))).f0).toList) (((rd_T65 x9 x11).f0).toList)) = true) then (impl_StoreFault.l0 k x0 x9 x10 (wrap64 (x11 + 1))) else (some 1)) else (none)) else (none)) else (impl_StoreFault.l0 k x0 x9 x10 (wrap64 (x11 + 1)))) else (some 1))) else (some t246))) else (none)) else (none)) else (some 0)
def impl_StoreFault.f (k : Nat) (l0 : List (S65)) : Option (Int) := if (l0.length : Int) > 200 then (some 2) else (impl_StoreFault.l0 k l0 l0 (l0.length : Int) 0)
set_option maxHeartbeats 4000000 in
set_option maxRecDepth 100000 in
theorem impl_StoreFault.calls (k : Nat) (A0 : Option Addr) (c0 : Nat) (l0 : List (S65)) (r : Int) (w : World) (hr0 : Kd.C k65 w A0 l0.length l0) (hc0 : l0.length ≤ c0) (hG : Gt w) (h : impl_StoreFault.f k l0 = some r) :
  Calls Tryz.prog 43 #[.slice A0 l0.length c0] w fun e w' => e = .returned (.int .i64 r) ∧ Below w.heap.size w w' := by
 have HR := Lib.hid hr0
 have HG := Lib.hid hG
 clear hr0 hc0 hG
 unfold impl_StoreFault.f at h
 by_cases c2 : (l0.length : Int) > 200
 ·
  rw [if_pos c2] at h
  obtain rfl := Option.some.inj h
  go_enter Tryz.func43, Tryz.ntmps43
  go_wp2
  go_ret
  exact ⟨rfl, Below.refl _ _⟩
 rw [if_neg c2] at h
 have H0 := Lib.hid h
 clear h
 go_enter Tryz.func43, Tryz.ntmps43
 go_wp2
 go_loopg [11] k (fun kq v11 wr => ∃ i : Nat, v11 = .int .i64 i ∧ i ≤ l0.length ∧ Aside (impl_StoreFault.l0 kq l0 l0 (l0.length : Int) i = some r) ∧ Aside (Below w.heap.size w wr))
 case atStart => exact ⟨0, rfl, Nat.zero_le _, H0.out, Below.refl _ w⟩
 case round =>
  clear H0
  obtain ⟨i, rfl, hi, HA, HB⟩ := hrel
  cases gk with
  | zero => exact absurd HA.out (by simp [impl_StoreFault.l0])
  | succ k1 =>
   have H := HA.out
   clear HA
   simp only [impl_StoreFault.l0] at H
   by_cases c3 : (i : Int) < (l0.length : Int)
   ·
    have c4 : (0 : Int) ≤ (i : Int) := Int.natCast_nonneg i
    rw [if_pos c3, if_pos c4, if_pos c3] at H
    obtain ⟨t, A5, H⟩ := Option.bind_eq_some_iff.mp H
    obtain ⟨ad, rfl, q0, q1, q2⟩ := at_T65 (Kd.C_below HR.out HB.out) (i : Int) c4 c3
    have hw : wrap64 ((i : Int) + 1) = ((i + 1 : Nat) : Int) := (YtkjgnnhpjcofiaaGreatDoorX.wrap_in zq7 zq7).trans zq7
    rw [Int.toNat_natCast] at q0 q1 q2
    obtain ⟨x, hx⟩ : ∃ x, rd_T65 l0 (i : Int) = x := ⟨_, rfl⟩
    rw [hx] at A5 q0 q1 q2 H
    have H5 := Lib.hid A5
    have HW := Lib.hid hw
    clear A5 hx hw
    by_cases ht : t = 0
    ·
     rw [if_pos ht] at H
     subst ht
     obtain ⟨s, A6, H⟩ := Option.bind_eq_some_iff.mp H
     have H6 := Lib.hid A6
     have HH := Lib.hid H
     clear A6 H
     go_wp2_with (first
 | ((with_reducible refine gate_dst (N := 4) rfl ?_); refine box_event ?hg (N := 4) ?hd (cs := #[.string (⟨#[]⟩ : ByteArray), .int .i64 0, .string (⟨#[]⟩ : ByteArray)]) (t := 65) ?hr ?_; (case hd => rfl); (case hg => rfl); (case hr => first | (go_simp; done) | (go_simp; rfl)); intro gd hgd w4 hbox hb4; have HD := Lib.hid hbox; have HB4 := Lib.hid hb4; have HGD := Lib.hid hgd; have y0 := (blk_cell hbox 0).trans rfl; have y1 := (blk_cell hbox 1).trans rfl; have y2 := (blk_cell hbox 2).trans rfl; have f0 := blk_frozen hbox 0; have f1 := blk_frozen hbox 1; have f2 := blk_frozen hbox 2; clear hbox hb4 hgd)
 | (go_at_call 75; (with_reducible refine (impl_dataCode.calls k1 x.f1 x.f2 0 _ H5.out).mono ?_); rintro e W5 ⟨rfl, hb⟩; have hbk := blk_below (X.blk_three HD.out (.string x.f0) (.int .i64 x.f1) (.string x.f2)) hb; have hgd2 : w.heap.size ≤ gd := Nat.le_trans HB.out.size (Nat.le_of_eq HGD.out.symm); have hb5 : Below w.heap.size w W5 := Below.trans (below_set (below_set (below_set (HB.out.trans (HB4.out.mono HB.out.size)) hgd2) hgd2) hgd2) (hb.mono (below_set (below_set (below_set (HB.out.trans (HB4.out.mono HB.out.size)) hgd2) hgd2) hgd2).size); have z0 : W5.cell? ⟨gd, 0, none⟩ = some (.string x.f0) := (blk_cell hbk 0).trans rfl; have z1 : W5.cell? ⟨gd, 1, none⟩ = some (.int .i64 x.f1) := (blk_cell hbk 1).trans rfl; have z2 : W5.cell? ⟨gd, 2, none⟩ = some (.string x.f2) := (blk_cell hbk 2).trans rfl; have B5 := Lib.hid hb5; clear hb hbk hgd2 hb5 y0 y1 y2 f0 f1 f2))
     have HGB := Lib.hid (zD B5.out)
     have H := HH.out
     by_cases hs : x.f0.toList = s.toList
     ·
      rw [if_pos hs] at H
      have hsb : (x.f0.toList == s.toList) = true := beq_iff_eq.mpr hs
      have hsb2 : (x.f0.toList != s.toList) = false := bne_eq_false_iff_eq.mpr hs
      by_cases hp : (i : Int) > 0
      ·
       obtain ⟨m, hm⟩ : ∃ m : Nat, i = m + 1 := ⟨i - 1, by omega⟩
       have hws : wrap64 ((i : Int) - 1) = (m : Int) := (YtkjgnnhpjcofiaaGreatDoorX.wrap_in zq7 zq7).trans zq7
       have hwi : IntKind.i64.wrap ((i : Int) - 1) = (m : Int) := (i64_w _).trans hws
       have hp0 : 0 < i := by omega
       have hp1 : decide ((0 : Int) < (i : Int)) = true := decide_eq_true hp
       have hm0 : (0 : Int) ≤ (m : Int) := Int.natCast_nonneg m
       have hml : (m : Int) < (l0.length : Int) := by omega
       obtain ⟨a3, e3, r0, _, _⟩ := at_T65 (Kd.C_below HR.out B5.out) (m : Int) hm0 hml
       obtain rfl : ad = a3 := Option.some.inj e3
       rw [Int.toNat_natCast] at r0
       rw [if_pos hp, hws, if_pos hm0, if_pos hml] at H
       generalize rd_T65 l0 (m : Int) = y at r0 H
       have HM := Lib.hid hm
       clear hs hws hm e3
       cases hl : Op.bytesLess y.f0.toList x.f0.toList with
       | true =>
        rw [hl, if_pos rfl, HW.out] at H
        have H7 := Lib.hid H
        clear H HH
        refine wp_region_noPanic ?_
        refine wp_region_held_drew (S := fun w' => w'.cell? ⟨gd, 0, none⟩ = some (.string x.f0) ∧ w'.cell? ⟨gd, 1, none⟩ = some (.int .i64 x.f1) ∧ w'.cell? ⟨gd, 2, none⟩ = some (.string x.f2) ∧ w'.cell? (ad.add (m * 3)) = some (.string y.f0) ∧ Below W5.heap.size W5 w') zq3 ⟨z0, z1, z2, r0, zD (Below.refl _ _)⟩ ?_
        intro hS0
        generalize hLL : Array.replicate _ false = lst
        obtain rfl : lst = #[zF,zF,zF,zF,zF,zF,zF,zF,zF,zF,zF,zF,zF,zF,zF,zF,zF,zF,zF,zF,zF,zF,zF] := hLL.symm.trans zq3
        clear hLL
        refine wpAnyH_take (i := 0) (v := ?_) rfl zq3 zq3 zq3 (fun _ _ _ h => (h : False).elim) (Or.inl ⟨by kernel_rfl, ?_⟩) zq9 ?_; rotate_left; (intro w' hSw; (try dsimp only at hSw); go_simp; (first | done | with_reducible rfl)); simp only [Act.put, List.getElem_toArray, List.getElem_cons_zero, List.getElem_cons_succ, zS, zT, zU]
        refine wpAnyH_take (i := 1) (v := ?_) rfl zq3 zq3 zq3 (fun _ _ _ h => (h : False).elim) (Or.inl ⟨by kernel_rfl, ?_⟩) zq9 ?_; rotate_left; (intro w' hSw; (try dsimp only at hSw); go_simp; (first | done | with_reducible rfl)); simp only [Act.put, List.getElem_toArray, List.getElem_cons_zero, List.getElem_cons_succ, zS, zT, zU]
        refine wpAnyH_take (i := 2) (v := ?_) rfl zq3 zq3 zq3 (fun _ _ _ h => (h : False).elim) (Or.inl ⟨by kernel_rfl, ?_⟩) zq9 ?_; rotate_left; (intro w' hSw; (try dsimp only at hSw); go_simp; (first | done | with_reducible rfl)); simp only [Act.put, List.getElem_toArray, List.getElem_cons_zero, List.getElem_cons_succ, zS, zT, zU]
        refine wpAnyH_take (i := 3) (v := ?_) rfl zq3 zq3 zq3 (fun _ _ _ h => (h : False).elim) (Or.inl ⟨by kernel_rfl, ?_⟩) zq9 ?_; rotate_left; (intro w' hSw; (try dsimp only at hSw); go_simp; (first | done | with_reducible rfl)); simp only [Act.put, List.getElem_toArray, List.getElem_cons_zero, List.getElem_cons_succ, zS, zT, zU]
        refine wpAnyH_take (i := 4) (v := ?_) rfl zq3 zq3 zq3 (fun _ _ _ h => (h : False).elim) (Or.inl ⟨by kernel_rfl, ?_⟩) zq9 ?_; rotate_left; (intro w' hSw; (try dsimp only at hSw); go_simp; (first | done | with_reducible rfl)); simp only [Act.put, List.getElem_toArray, List.getElem_cons_zero, List.getElem_cons_succ, zS, zT, zU]
        refine wpAnyH_take (i := 5) (v := ?_) rfl zq3 zq3 zq3 (fun _ _ _ h => (h : False).elim) (Or.inl ⟨by kernel_rfl, ?_⟩) zq9 ?_; rotate_left; (intro w' hSw; (try dsimp only at hSw); go_simp; (first | done | with_reducible rfl)); simp only [Act.put, List.getElem_toArray, List.getElem_cons_zero, List.getElem_cons_succ, zS, zT, zU]
        refine wpAnyH_ready (rs := [6]) zq3 zq16 ?_
        refine AllReadyH.cons rfl (fun K hK => ?_) AllReadyH.nil
        go_simp
        refine (impl_idOf.calls k1 x.f1 x.f2 s _ (HG.out.below HGB.out) H6.out).mono ?_
        rintro e V ⟨rfl, hv⟩
        have hBV := hv
        refine hK.out _ _ (X.keepP hS0 hv) (fun hS1 => ?_)
        clear hK hS0
        try simp only [Act.put, zS, zT, zU]
        refine wpAnyH_take (i := 7) (v := ?_) rfl zq3 zq3 zq3 (fun _ _ _ h => (h : False).elim) (Or.inl ⟨by kernel_rfl, ?_⟩) zq9 ?_; rotate_left; (intro w' hSw; (try dsimp only at hSw); go_simp; (first | done | with_reducible rfl)); simp only [Act.put, List.getElem_toArray, List.getElem_cons_zero, List.getElem_cons_succ, zS, zT, zU]
        refine wpAnyH_take (i := 8) (v := ?_) rfl zq3 zq3 zq3 (fun _ _ _ h => (h : False).elim) (Or.inl ⟨by kernel_rfl, ?_⟩) zq9 ?_; rotate_left; (intro w' hSw; (try dsimp only at hSw); go_simp; (first | done | with_reducible rfl)); simp only [Act.put, List.getElem_toArray, List.getElem_cons_zero, List.getElem_cons_succ, zS, zT, zU]
        refine wpAnyH_take (i := 9) (v := ?_) rfl zq3 zq3 zq3 (fun _ _ _ h => (h : False).elim) (Or.inl ⟨by kernel_rfl, ?_⟩) zq9 ?_; rotate_left; (intro w' hSw; (try dsimp only at hSw); go_simp; (first | done | with_reducible rfl)); simp only [Act.put, List.getElem_toArray, List.getElem_cons_zero, List.getElem_cons_succ, zS, zT, zU]
        refine wpAnyH_take (i := 10) (v := ?_) rfl zq3 zq3 zq3 (fun _ _ _ h => (h : False).elim) (Or.inl ⟨by kernel_rfl, ?_⟩) zq9 ?_; rotate_left; (intro w' hSw; (try dsimp only at hSw); go_simp; (first | done | with_reducible rfl)); simp only [Act.put, List.getElem_toArray, List.getElem_cons_zero, List.getElem_cons_succ, zS, zT, zU]
        refine wpAnyH_take (i := 11) (v := ?_) rfl zq3 zq3 zq3 (fun _ _ _ h => (h : False).elim) (Or.inl ⟨by kernel_rfl, ?_⟩) zq9 ?_; rotate_left; (intro w' hSw; (try dsimp only at hSw); go_simp; (first | done | with_reducible rfl)); simp only [Act.put, List.getElem_toArray, List.getElem_cons_zero, List.getElem_cons_succ, zS, zT, zU]
        refine wpAnyH_take (i := 12) (v := ?_) rfl zq3 zq3 zq3 (fun _ _ _ h => (h : False).elim) (Or.inl ⟨by kernel_rfl, ?_⟩) zq9 ?_; rotate_left; (intro w' hSw; (try dsimp only at hSw); go_simp; (first | done | with_reducible rfl)); simp only [Act.put, List.getElem_toArray, List.getElem_cons_zero, List.getElem_cons_succ, zS, zT, zU]
        refine wpAnyH_take (i := 13) (v := ?_) rfl zq3 zq3 zq3 (fun _ _ _ h => (h : False).elim) (Or.inl ⟨by kernel_rfl, ?_⟩) zq9 ?_; rotate_left; (intro w' hSw; (try dsimp only at hSw); go_simp; (first | done | with_reducible rfl)); simp only [Act.put, List.getElem_toArray, List.getElem_cons_zero, List.getElem_cons_succ, zS, zT, zU]
        refine wpAnyH_take (i := 14) (v := ?_) rfl zq3 zq3 zq3 (fun _ _ _ h => (h : False).elim) (Or.inl ⟨by kernel_rfl, ?_⟩) zq9 ?_; rotate_left; (intro w' hSw; (try dsimp only at hSw); go_simp; (first | done | with_reducible rfl)); simp only [Act.put, List.getElem_toArray, List.getElem_cons_zero, List.getElem_cons_succ, zS, zT, zU]
        refine wpAnyH_take (i := 15) (v := ?_) rfl zq3 zq3 zq3 (fun _ _ _ h => (h : False).elim) (Or.inl ⟨by kernel_rfl, ?_⟩) zq9 ?_; rotate_left; (intro w' hSw; (try dsimp only at hSw); go_simp; (first | done | with_reducible rfl)); simp only [Act.put, List.getElem_toArray, List.getElem_cons_zero, List.getElem_cons_succ, zS, zT, zU]
        refine wpAnyH_take (i := 16) (v := ?_) rfl zq3 zq3 zq3 (fun _ _ _ h => (h : False).elim) (Or.inl ⟨by kernel_rfl, ?_⟩) zq9 ?_; rotate_left; (intro w' hSw; (try dsimp only at hSw); go_simp; (first | done | with_reducible rfl)); simp only [Act.put, List.getElem_toArray, List.getElem_cons_zero, List.getElem_cons_succ, zS, zT, zU]
        refine wpAnyH_take (i := 17) (v := ?_) rfl zq3 zq3 zq3 (fun _ _ _ h => (h : False).elim) (Or.inl ⟨by kernel_rfl, ?_⟩) zq9 ?_; rotate_left; (intro w' hSw; (try dsimp only at hSw); go_simp; (first | done | with_reducible rfl)); simp only [Act.put, List.getElem_toArray, List.getElem_cons_zero, List.getElem_cons_succ, zS, zT, zU]
        refine wpAnyH_take (i := 18) (v := ?_) rfl zq3 zq3 zq3 (fun _ _ _ h => (h : False).elim) (Or.inl ⟨by kernel_rfl, ?_⟩) zq9 ?_; rotate_left; (intro w' hSw; (try dsimp only at hSw); go_simp; (first | done | with_reducible rfl)); simp only [Act.put, List.getElem_toArray, List.getElem_cons_zero, List.getElem_cons_succ, zS, zT, zU]
        refine wpAnyH_take (i := 19) (v := ?_) rfl zq3 zq3 zq3 (fun _ _ _ h => (h : False).elim) (Or.inl ⟨by kernel_rfl, ?_⟩) zq9 ?_; rotate_left; (intro w' hSw; (try dsimp only at hSw); go_simp; (first | done | with_reducible rfl)); simp only [Act.put, List.getElem_toArray, List.getElem_cons_zero, List.getElem_cons_succ, zS, zT, zU]
        refine wpAnyH_take (i := 20) (v := ?_) rfl zq3 zq3 zq3 (fun _ _ _ h => (h : False).elim) (Or.inl ⟨by kernel_rfl, ?_⟩) zq9 ?_; rotate_left; (intro w' hSw; (try dsimp only at hSw); go_simp; (first | done | with_reducible rfl)); simp only [Act.put, List.getElem_toArray, List.getElem_cons_zero, List.getElem_cons_succ, zS, zT, zU]
        refine wpAnyH_take (i := 21) (v := ?_) rfl zq3 zq3 zq3 (fun _ _ _ h => (h : False).elim) (Or.inl ⟨by kernel_rfl, ?_⟩) zq9 ?_; rotate_left; (intro w' hSw; (try dsimp only at hSw); go_simp; (first | done | with_reducible rfl)); simp only [Act.put, List.getElem_toArray, List.getElem_cons_zero, List.getElem_cons_succ, zS, zT, zU]
        refine wpAnyH_take (i := 22) (v := ?_) rfl zq3 zq3 zq3 (fun _ _ _ h => (h : False).elim) (Or.inl ⟨by kernel_rfl, ?_⟩) zq9 ?_; rotate_left; (intro w' hSw; (try dsimp only at hSw); go_simp; (first | done | with_reducible rfl)); simp only [Act.put, List.getElem_toArray, List.getElem_cons_zero, List.getElem_cons_succ, zS, zT, zU]
        refine wpAnyH_done zq3 ?_ _
        refine NoPanic.normal ?_
        have BV := Lib.hid (show Below w.heap.size w V from HGB.out.trans (hBV.mono HGB.out.size))
        clear hv hBV hS1 z0 z1 z2
        go_wp2
        go_roundg k1
        case measure => omega
        case rel => exact ⟨i + 1, by go_num, by omega, H7.out, BV.out⟩
       | false =>
        rw [hl, if_neg zq13] at H
        obtain rfl := Option.some.inj H
        clear H HH
        refine wp_region_noPanic ?_
        refine wp_region_held_drew (S := fun w' => w'.cell? ⟨gd, 0, none⟩ = some (.string x.f0) ∧ w'.cell? ⟨gd, 1, none⟩ = some (.int .i64 x.f1) ∧ w'.cell? ⟨gd, 2, none⟩ = some (.string x.f2) ∧ w'.cell? (ad.add (m * 3)) = some (.string y.f0) ∧ Below W5.heap.size W5 w') zq3 ⟨z0, z1, z2, r0, zD (Below.refl _ _)⟩ ?_
        intro hS0
        generalize hLL : Array.replicate _ false = lst
        obtain rfl : lst = #[zF,zF,zF,zF,zF,zF,zF,zF,zF,zF,zF,zF,zF,zF,zF,zF,zF,zF,zF,zF,zF,zF,zF] := hLL.symm.trans zq3
        clear hLL
        refine wpAnyH_take (i := 0) (v := ?_) rfl zq3 zq3 zq3 (fun _ _ _ h => (h : False).elim) (Or.inl ⟨by kernel_rfl, ?_⟩) zq9 ?_; rotate_left; (intro w' hSw; (try dsimp only at hSw); go_simp; (first | done | with_reducible rfl)); simp only [Act.put, List.getElem_toArray, List.getElem_cons_zero, List.getElem_cons_succ, zS, zT, zU]
        refine wpAnyH_take (i := 1) (v := ?_) rfl zq3 zq3 zq3 (fun _ _ _ h => (h : False).elim) (Or.inl ⟨by kernel_rfl, ?_⟩) zq9 ?_; rotate_left; (intro w' hSw; (try dsimp only at hSw); go_simp; (first | done | with_reducible rfl)); simp only [Act.put, List.getElem_toArray, List.getElem_cons_zero, List.getElem_cons_succ, zS, zT, zU]
        refine wpAnyH_take (i := 2) (v := ?_) rfl zq3 zq3 zq3 (fun _ _ _ h => (h : False).elim) (Or.inl ⟨by kernel_rfl, ?_⟩) zq9 ?_; rotate_left; (intro w' hSw; (try dsimp only at hSw); go_simp; (first | done | with_reducible rfl)); simp only [Act.put, List.getElem_toArray, List.getElem_cons_zero, List.getElem_cons_succ, zS, zT, zU]
        refine wpAnyH_take (i := 3) (v := ?_) rfl zq3 zq3 zq3 (fun _ _ _ h => (h : False).elim) (Or.inl ⟨by kernel_rfl, ?_⟩) zq9 ?_; rotate_left; (intro w' hSw; (try dsimp only at hSw); go_simp; (first | done | with_reducible rfl)); simp only [Act.put, List.getElem_toArray, List.getElem_cons_zero, List.getElem_cons_succ, zS, zT, zU]
        refine wpAnyH_take (i := 4) (v := ?_) rfl zq3 zq3 zq3 (fun _ _ _ h => (h : False).elim) (Or.inl ⟨by kernel_rfl, ?_⟩) zq9 ?_; rotate_left; (intro w' hSw; (try dsimp only at hSw); go_simp; (first | done | with_reducible rfl)); simp only [Act.put, List.getElem_toArray, List.getElem_cons_zero, List.getElem_cons_succ, zS, zT, zU]
        refine wpAnyH_take (i := 5) (v := ?_) rfl zq3 zq3 zq3 (fun _ _ _ h => (h : False).elim) (Or.inl ⟨by kernel_rfl, ?_⟩) zq9 ?_; rotate_left; (intro w' hSw; (try dsimp only at hSw); go_simp; (first | done | with_reducible rfl)); simp only [Act.put, List.getElem_toArray, List.getElem_cons_zero, List.getElem_cons_succ, zS, zT, zU]
        refine wpAnyH_ready (rs := [6]) zq3 zq16 ?_
        refine AllReadyH.cons rfl (fun K hK => ?_) AllReadyH.nil
        go_simp
        refine (impl_idOf.calls k1 x.f1 x.f2 s _ (HG.out.below HGB.out) H6.out).mono ?_
        rintro e V ⟨rfl, hv⟩
        have hBV := hv
        refine hK.out _ _ (X.keepP hS0 hv) (fun hS1 => ?_)
        clear hK hS0
        try simp only [Act.put, zS, zT, zU]
        refine wpAnyH_take (i := 7) (v := ?_) rfl zq3 zq3 zq3 (fun _ _ _ h => (h : False).elim) (Or.inl ⟨by kernel_rfl, ?_⟩) zq9 ?_; rotate_left; (intro w' hSw; (try dsimp only at hSw); go_simp; (first | done | with_reducible rfl)); simp only [Act.put, List.getElem_toArray, List.getElem_cons_zero, List.getElem_cons_succ, zS, zT, zU]
        refine wpAnyH_take (i := 8) (v := ?_) rfl zq3 zq3 zq3 (fun _ _ _ h => (h : False).elim) (Or.inl ⟨by kernel_rfl, ?_⟩) zq9 ?_; rotate_left; (intro w' hSw; (try dsimp only at hSw); go_simp; (first | done | with_reducible rfl)); simp only [Act.put, List.getElem_toArray, List.getElem_cons_zero, List.getElem_cons_succ, zS, zT, zU]
        refine wpAnyH_take (i := 9) (v := ?_) rfl zq3 zq3 zq3 (fun _ _ _ h => (h : False).elim) (Or.inl ⟨by kernel_rfl, ?_⟩) zq9 ?_; rotate_left; (intro w' hSw; (try dsimp only at hSw); go_simp; (first | done | with_reducible rfl)); simp only [Act.put, List.getElem_toArray, List.getElem_cons_zero, List.getElem_cons_succ, zS, zT, zU]
        refine wpAnyH_take (i := 10) (v := ?_) rfl zq3 zq3 zq3 (fun _ _ _ h => (h : False).elim) (Or.inl ⟨by kernel_rfl, ?_⟩) zq9 ?_; rotate_left; (intro w' hSw; (try dsimp only at hSw); go_simp; (first | done | with_reducible rfl)); simp only [Act.put, List.getElem_toArray, List.getElem_cons_zero, List.getElem_cons_succ, zS, zT, zU]
        refine wpAnyH_take (i := 11) (v := ?_) rfl zq3 zq3 zq3 (fun _ _ _ h => (h : False).elim) (Or.inl ⟨by kernel_rfl, ?_⟩) zq9 ?_; rotate_left; (intro w' hSw; (try dsimp only at hSw); go_simp; (first | done | with_reducible rfl)); simp only [Act.put, List.getElem_toArray, List.getElem_cons_zero, List.getElem_cons_succ, zS, zT, zU]
        refine wpAnyH_take (i := 12) (v := ?_) rfl zq3 zq3 zq3 (fun _ _ _ h => (h : False).elim) (Or.inl ⟨by kernel_rfl, ?_⟩) zq9 ?_; rotate_left; (intro w' hSw; (try dsimp only at hSw); go_simp; (first | done | with_reducible rfl)); simp only [Act.put, List.getElem_toArray, List.getElem_cons_zero, List.getElem_cons_succ, zS, zT, zU]
        refine wpAnyH_take (i := 13) (v := ?_) rfl zq3 zq3 zq3 (fun _ _ _ h => (h : False).elim) (Or.inl ⟨by kernel_rfl, ?_⟩) zq9 ?_; rotate_left; (intro w' hSw; (try dsimp only at hSw); go_simp; (first | done | with_reducible rfl)); simp only [Act.put, List.getElem_toArray, List.getElem_cons_zero, List.getElem_cons_succ, zS, zT, zU]
        refine wpAnyH_take (i := 14) (v := ?_) rfl zq3 zq3 zq3 (fun _ _ _ h => (h : False).elim) (Or.inl ⟨by kernel_rfl, ?_⟩) zq9 ?_; rotate_left; (intro w' hSw; (try dsimp only at hSw); go_simp; (first | done | with_reducible rfl)); simp only [Act.put, List.getElem_toArray, List.getElem_cons_zero, List.getElem_cons_succ, zS, zT, zU]
        refine wpAnyH_take (i := 15) (v := ?_) rfl zq3 zq3 zq3 (fun _ _ _ h => (h : False).elim) (Or.inl ⟨by kernel_rfl, ?_⟩) zq9 ?_; rotate_left; (intro w' hSw; (try dsimp only at hSw); go_simp; (first | done | with_reducible rfl)); simp only [Act.put, List.getElem_toArray, List.getElem_cons_zero, List.getElem_cons_succ, zS, zT, zU]
        refine wpAnyH_take (i := 16) (v := ?_) rfl zq3 zq3 zq3 (fun _ _ _ h => (h : False).elim) (Or.inl ⟨by kernel_rfl, ?_⟩) zq9 ?_; rotate_left; (intro w' hSw; (try dsimp only at hSw); go_simp; (first | done | with_reducible rfl)); simp only [Act.put, List.getElem_toArray, List.getElem_cons_zero, List.getElem_cons_succ, zS, zT, zU]
        refine wpAnyH_take (i := 17) (v := ?_) rfl zq3 zq3 zq3 (fun _ _ _ h => (h : False).elim) (Or.inl ⟨by kernel_rfl, ?_⟩) zq9 ?_; rotate_left; (intro w' hSw; (try dsimp only at hSw); go_simp; (first | done | with_reducible rfl)); simp only [Act.put, List.getElem_toArray, List.getElem_cons_zero, List.getElem_cons_succ, zS, zT, zU]
        refine wpAnyH_take (i := 18) (v := ?_) rfl zq3 zq3 zq3 (fun _ _ _ h => (h : False).elim) (Or.inl ⟨by kernel_rfl, ?_⟩) zq9 ?_; rotate_left; (intro w' hSw; (try dsimp only at hSw); go_simp; (first | done | with_reducible rfl)); simp only [Act.put, List.getElem_toArray, List.getElem_cons_zero, List.getElem_cons_succ, zS, zT, zU]
        refine wpAnyH_take (i := 19) (v := ?_) rfl zq3 zq3 zq3 (fun _ _ _ h => (h : False).elim) (Or.inl ⟨by kernel_rfl, ?_⟩) zq9 ?_; rotate_left; (intro w' hSw; (try dsimp only at hSw); go_simp; (first | done | with_reducible rfl)); simp only [Act.put, List.getElem_toArray, List.getElem_cons_zero, List.getElem_cons_succ, zS, zT, zU]
        refine wpAnyH_take (i := 20) (v := ?_) rfl zq3 zq3 zq3 (fun _ _ _ h => (h : False).elim) (Or.inl ⟨by kernel_rfl, ?_⟩) zq9 ?_; rotate_left; (intro w' hSw; (try dsimp only at hSw); go_simp; (first | done | with_reducible rfl)); simp only [Act.put, List.getElem_toArray, List.getElem_cons_zero, List.getElem_cons_succ, zS, zT, zU]
        refine wpAnyH_take (i := 21) (v := ?_) rfl zq3 zq3 zq3 (fun _ _ _ h => (h : False).elim) (Or.inl ⟨by kernel_rfl, ?_⟩) zq9 ?_; rotate_left; (intro w' hSw; (try dsimp only at hSw); go_simp; (first | done | with_reducible rfl)); simp only [Act.put, List.getElem_toArray, List.getElem_cons_zero, List.getElem_cons_succ, zS, zT, zU]
        refine wpAnyH_take (i := 22) (v := ?_) rfl zq3 zq3 zq3 (fun _ _ _ h => (h : False).elim) (Or.inl ⟨by kernel_rfl, ?_⟩) zq9 ?_; rotate_left; (intro w' hSw; (try dsimp only at hSw); go_simp; (first | done | with_reducible rfl)); simp only [Act.put, List.getElem_toArray, List.getElem_cons_zero, List.getElem_cons_succ, zS, zT, zU]
        refine wpAnyH_done zq3 ?_ _
        refine NoPanic.normal ?_
        have BV := Lib.hid (show Below w.heap.size w V from HGB.out.trans (hBV.mono HGB.out.size))
        clear hv hBV hS1 z0 z1 z2
        go_wp2
        go_ret
        exact ⟨rfl, BV.out⟩
      rw [if_neg hp, HW.out] at H
      have hp1 : decide ((0 : Int) < (i : Int)) = false := decide_eq_false hp
      have hp0 : ¬ 0 < i := by omega
      have hp2 : decide (0 < i) = false := decide_eq_false hp0
      have H7 := Lib.hid H
      clear hs H HH
      refine wp_region_noPanic ?_
      refine wp_region_held_drew (S := fun w' => w'.cell? ⟨gd, 0, none⟩ = some (.string x.f0) ∧ w'.cell? ⟨gd, 1, none⟩ = some (.int .i64 x.f1) ∧ w'.cell? ⟨gd, 2, none⟩ = some (.string x.f2) ∧ Below W5.heap.size W5 w') zq3 ⟨z0, z1, z2, zD (Below.refl _ _)⟩ ?_
      intro hS0
      generalize hLL : Array.replicate _ false = lst
      obtain rfl : lst = #[zF,zF,zF,zF,zF,zF,zF,zF,zF,zF,zF,zF,zF,zF,zF,zF,zF,zF,zF,zF,zF,zF,zF] := hLL.symm.trans zq3
      clear hLL
      refine wpAnyH_take (i := 0) (v := ?_) rfl zq3 zq3 zq3 (fun _ _ _ h => (h : False).elim) (Or.inl ⟨by kernel_rfl, ?_⟩) zq9 ?_; rotate_left; (intro w' hSw; (try dsimp only at hSw); go_simp; (first | done | with_reducible rfl)); simp only [Act.put, List.getElem_toArray, List.getElem_cons_zero, List.getElem_cons_succ, zS, zT, zU]
      refine wpAnyH_take (i := 1) (v := ?_) rfl zq3 zq3 zq3 (fun _ _ _ h => (h : False).elim) (Or.inl ⟨by kernel_rfl, ?_⟩) zq9 ?_; rotate_left; (intro w' hSw; (try dsimp only at hSw); go_simp; (first | done | with_reducible rfl)); simp only [Act.put, List.getElem_toArray, List.getElem_cons_zero, List.getElem_cons_succ, zS, zT, zU]
      refine wpAnyH_take (i := 2) (v := ?_) rfl zq3 zq3 zq3 (fun _ _ _ h => (h : False).elim) (Or.inl ⟨by kernel_rfl, ?_⟩) zq9 ?_; rotate_left; (intro w' hSw; (try dsimp only at hSw); go_simp; (first | done | with_reducible rfl)); simp only [Act.put, List.getElem_toArray, List.getElem_cons_zero, List.getElem_cons_succ, zS, zT, zU]
      refine wpAnyH_take (i := 3) (v := ?_) rfl zq3 zq3 zq3 (fun _ _ _ h => (h : False).elim) (Or.inl ⟨by kernel_rfl, ?_⟩) zq9 ?_; rotate_left; (intro w' hSw; (try dsimp only at hSw); go_simp; (first | done | with_reducible rfl)); simp only [Act.put, List.getElem_toArray, List.getElem_cons_zero, List.getElem_cons_succ, zS, zT, zU]
      refine wpAnyH_take (i := 4) (v := ?_) rfl zq3 zq3 zq3 (fun _ _ _ h => (h : False).elim) (Or.inl ⟨by kernel_rfl, ?_⟩) zq9 ?_; rotate_left; (intro w' hSw; (try dsimp only at hSw); go_simp; (first | done | with_reducible rfl)); simp only [Act.put, List.getElem_toArray, List.getElem_cons_zero, List.getElem_cons_succ, zS, zT, zU]
      refine wpAnyH_take (i := 5) (v := ?_) rfl zq3 zq3 zq3 (fun _ _ _ h => (h : False).elim) (Or.inl ⟨by kernel_rfl, ?_⟩) zq9 ?_; rotate_left; (intro w' hSw; (try dsimp only at hSw); go_simp; (first | done | with_reducible rfl)); simp only [Act.put, List.getElem_toArray, List.getElem_cons_zero, List.getElem_cons_succ, zS, zT, zU]
      refine wpAnyH_ready (rs := [6]) zq3 zq16 ?_
      refine AllReadyH.cons rfl (fun K hK => ?_) AllReadyH.nil
      go_simp
      refine (impl_idOf.calls k1 x.f1 x.f2 s _ (HG.out.below HGB.out) H6.out).mono ?_
      rintro e V ⟨rfl, hv⟩
      have hBV := hv
      refine hK.out _ _ (X.keepO hS0 hv) (fun hS1 => ?_)
      clear hK hS0
      try simp only [Act.put, zS, zT, zU]
      refine wpAnyH_take (i := 7) (v := ?_) rfl zq3 zq3 zq3 (fun _ _ _ h => (h : False).elim) (Or.inl ⟨by kernel_rfl, ?_⟩) zq9 ?_; rotate_left; (intro w' hSw; (try dsimp only at hSw); go_simp; (first | done | with_reducible rfl)); simp only [Act.put, List.getElem_toArray, List.getElem_cons_zero, List.getElem_cons_succ, zS, zT, zU]
      refine wpAnyH_take (i := 8) (v := ?_) rfl zq3 zq3 zq3 (fun _ _ _ h => (h : False).elim) (Or.inl ⟨by kernel_rfl, ?_⟩) zq9 ?_; rotate_left; (intro w' hSw; (try dsimp only at hSw); go_simp; (first | done | with_reducible rfl)); simp only [Act.put, List.getElem_toArray, List.getElem_cons_zero, List.getElem_cons_succ, zS, zT, zU]
      refine wpAnyH_take (i := 9) (v := ?_) rfl zq3 zq3 zq3 (fun _ _ _ h => (h : False).elim) (Or.inl ⟨by kernel_rfl, ?_⟩) zq9 ?_; rotate_left; (intro w' hSw; (try dsimp only at hSw); go_simp; (first | done | with_reducible rfl)); simp only [Act.put, List.getElem_toArray, List.getElem_cons_zero, List.getElem_cons_succ, zS, zT, zU]
      refine wpAnyH_take (i := 10) (v := ?_) rfl zq3 zq3 zq3 (fun _ _ _ h => (h : False).elim) (Or.inl ⟨by kernel_rfl, ?_⟩) zq9 ?_; rotate_left; (intro w' hSw; (try dsimp only at hSw); go_simp; (first | done | with_reducible rfl)); simp only [Act.put, List.getElem_toArray, List.getElem_cons_zero, List.getElem_cons_succ, zS, zT, zU]
      refine wpAnyH_take (i := 11) (v := ?_) rfl zq3 zq3 zq3 (fun _ _ _ h => (h : False).elim) (Or.inl ⟨by kernel_rfl, ?_⟩) zq9 ?_; rotate_left; (intro w' hSw; (try dsimp only at hSw); go_simp; (first | done | with_reducible rfl)); simp only [Act.put, List.getElem_toArray, List.getElem_cons_zero, List.getElem_cons_succ, zS, zT, zU]
      refine wpAnyH_take (i := 12) (v := undef) rfl zq3 zq3 zq3 (fun _ _ _ h => (h : False).elim) (Or.inr ⟨by kernel_rfl, rfl⟩) zq9 ?_; simp only [Act.put, List.getElem_toArray, List.getElem_cons_zero, List.getElem_cons_succ, zS, zT, zU]
      refine wpAnyH_take (i := 13) (v := undef) rfl zq3 zq3 zq3 (fun _ _ _ h => (h : False).elim) (Or.inr ⟨by kernel_rfl, rfl⟩) zq9 ?_; simp only [Act.put, List.getElem_toArray, List.getElem_cons_zero, List.getElem_cons_succ, zS, zT, zU]
      refine wpAnyH_take (i := 14) (v := undef) rfl zq3 zq3 zq3 (fun _ _ _ h => (h : False).elim) (Or.inr ⟨by kernel_rfl, rfl⟩) zq9 ?_; simp only [Act.put, List.getElem_toArray, List.getElem_cons_zero, List.getElem_cons_succ, zS, zT, zU]
      refine wpAnyH_take (i := 15) (v := undef) rfl zq3 zq3 zq3 (fun _ _ _ h => (h : False).elim) (Or.inr ⟨by kernel_rfl, rfl⟩) zq9 ?_; simp only [Act.put, List.getElem_toArray, List.getElem_cons_zero, List.getElem_cons_succ, zS, zT, zU]
      refine wpAnyH_take (i := 16) (v := undef) rfl zq3 zq3 zq3 (fun _ _ _ h => (h : False).elim) (Or.inr ⟨by kernel_rfl, rfl⟩) zq9 ?_; simp only [Act.put, List.getElem_toArray, List.getElem_cons_zero, List.getElem_cons_succ, zS, zT, zU]
      refine wpAnyH_take (i := 17) (v := undef) rfl zq3 zq3 zq3 (fun _ _ _ h => (h : False).elim) (Or.inr ⟨by kernel_rfl, rfl⟩) zq9 ?_; simp only [Act.put, List.getElem_toArray, List.getElem_cons_zero, List.getElem_cons_succ, zS, zT, zU]
      refine wpAnyH_take (i := 18) (v := undef) rfl zq3 zq3 zq3 (fun _ _ _ h => (h : False).elim) (Or.inr ⟨by kernel_rfl, rfl⟩) zq9 ?_; simp only [Act.put, List.getElem_toArray, List.getElem_cons_zero, List.getElem_cons_succ, zS, zT, zU]
      refine wpAnyH_take (i := 19) (v := undef) rfl zq3 zq3 zq3 (fun _ _ _ h => (h : False).elim) (Or.inr ⟨by kernel_rfl, rfl⟩) zq9 ?_; simp only [Act.put, List.getElem_toArray, List.getElem_cons_zero, List.getElem_cons_succ, zS, zT, zU]
      refine wpAnyH_take (i := 20) (v := undef) rfl zq3 zq3 zq3 (fun _ _ _ h => (h : False).elim) (Or.inr ⟨by kernel_rfl, rfl⟩) zq9 ?_; simp only [Act.put, List.getElem_toArray, List.getElem_cons_zero, List.getElem_cons_succ, zS, zT, zU]
      refine wpAnyH_take (i := 21) (v := ?_) rfl zq3 zq3 zq3 (fun _ _ _ h => (h : False).elim) (Or.inl ⟨by kernel_rfl, ?_⟩) zq9 ?_; rotate_left; (intro w' hSw; (try dsimp only at hSw); go_simp; (first | done | with_reducible rfl)); simp only [Act.put, List.getElem_toArray, List.getElem_cons_zero, List.getElem_cons_succ, zS, zT, zU]
      refine wpAnyH_take (i := 22) (v := ?_) rfl zq3 zq3 zq3 (fun _ _ _ h => (h : False).elim) (Or.inl ⟨by kernel_rfl, ?_⟩) zq9 ?_; rotate_left; (intro w' hSw; (try dsimp only at hSw); go_simp; (first | done | with_reducible rfl)); simp only [Act.put, List.getElem_toArray, List.getElem_cons_zero, List.getElem_cons_succ, zS, zT, zU]
      refine wpAnyH_done zq3 ?_ _
      refine NoPanic.normal ?_
      have BV := Lib.hid (show Below w.heap.size w V from HGB.out.trans (hBV.mono HGB.out.size))
      clear hv hBV hS1 z0 z1 z2
      go_wp2
      go_roundg k1
      case measure => omega
      case rel => exact ⟨i + 1, by go_num, by omega, H7.out, BV.out⟩
     rw [if_neg hs] at H
     have hsb : (x.f0.toList == s.toList) = false := beq_eq_false_iff_ne.mpr hs
     have hsb2 : (x.f0.toList != s.toList) = true := bne_iff_ne.mpr hs
     obtain rfl := Option.some.inj H
     clear hs H HH
     refine wp_region_noPanic ?_
     refine wp_region_held_drew (S := fun w' => w'.cell? ⟨gd, 0, none⟩ = some (.string x.f0) ∧ w'.cell? ⟨gd, 1, none⟩ = some (.int .i64 x.f1) ∧ w'.cell? ⟨gd, 2, none⟩ = some (.string x.f2) ∧ Below W5.heap.size W5 w') zq3 ⟨z0, z1, z2, zD (Below.refl _ _)⟩ ?_
     intro hS0
     generalize hLL : Array.replicate _ false = lst
     obtain rfl : lst = #[zF,zF,zF,zF,zF,zF,zF,zF,zF,zF,zF,zF,zF,zF,zF,zF,zF,zF,zF,zF,zF,zF,zF] := hLL.symm.trans zq3
     clear hLL
     refine wpAnyH_take (i := 0) (v := ?_) rfl zq3 zq3 zq3 (fun _ _ _ h => (h : False).elim) (Or.inl ⟨by kernel_rfl, ?_⟩) zq9 ?_; rotate_left; (intro w' hSw; (try dsimp only at hSw); go_simp; (first | done | with_reducible rfl)); simp only [Act.put, List.getElem_toArray, List.getElem_cons_zero, List.getElem_cons_succ, zS, zT, zU]
     refine wpAnyH_take (i := 1) (v := ?_) rfl zq3 zq3 zq3 (fun _ _ _ h => (h : False).elim) (Or.inl ⟨by kernel_rfl, ?_⟩) zq9 ?_; rotate_left; (intro w' hSw; (try dsimp only at hSw); go_simp; (first | done | with_reducible rfl)); simp only [Act.put, List.getElem_toArray, List.getElem_cons_zero, List.getElem_cons_succ, zS, zT, zU]
     refine wpAnyH_take (i := 2) (v := ?_) rfl zq3 zq3 zq3 (fun _ _ _ h => (h : False).elim) (Or.inl ⟨by kernel_rfl, ?_⟩) zq9 ?_; rotate_left; (intro w' hSw; (try dsimp only at hSw); go_simp; (first | done | with_reducible rfl)); simp only [Act.put, List.getElem_toArray, List.getElem_cons_zero, List.getElem_cons_succ, zS, zT, zU]
     refine wpAnyH_take (i := 3) (v := ?_) rfl zq3 zq3 zq3 (fun _ _ _ h => (h : False).elim) (Or.inl ⟨by kernel_rfl, ?_⟩) zq9 ?_; rotate_left; (intro w' hSw; (try dsimp only at hSw); go_simp; (first | done | with_reducible rfl)); simp only [Act.put, List.getElem_toArray, List.getElem_cons_zero, List.getElem_cons_succ, zS, zT, zU]
     refine wpAnyH_take (i := 4) (v := ?_) rfl zq3 zq3 zq3 (fun _ _ _ h => (h : False).elim) (Or.inl ⟨by kernel_rfl, ?_⟩) zq9 ?_; rotate_left; (intro w' hSw; (try dsimp only at hSw); go_simp; (first | done | with_reducible rfl)); simp only [Act.put, List.getElem_toArray, List.getElem_cons_zero, List.getElem_cons_succ, zS, zT, zU]
     refine wpAnyH_take (i := 5) (v := ?_) rfl zq3 zq3 zq3 (fun _ _ _ h => (h : False).elim) (Or.inl ⟨by kernel_rfl, ?_⟩) zq9 ?_; rotate_left; (intro w' hSw; (try dsimp only at hSw); go_simp; (first | done | with_reducible rfl)); simp only [Act.put, List.getElem_toArray, List.getElem_cons_zero, List.getElem_cons_succ, zS, zT, zU]
     refine wpAnyH_ready (rs := [6]) zq3 zq16 ?_
     refine AllReadyH.cons rfl (fun K hK => ?_) AllReadyH.nil
     go_simp
     refine (impl_idOf.calls k1 x.f1 x.f2 s _ (HG.out.below HGB.out) H6.out).mono ?_
     rintro e V ⟨rfl, hv⟩
     have hBV := hv
     refine hK.out _ _ (X.keepO hS0 hv) (fun hS1 => ?_)
     clear hK hS0
     try simp only [Act.put, zS, zT, zU]
     refine wpAnyH_take (i := 7) (v := ?_) rfl zq3 zq3 zq3 (fun _ _ _ h => (h : False).elim) (Or.inl ⟨by kernel_rfl, ?_⟩) zq9 ?_; rotate_left; (intro w' hSw; (try dsimp only at hSw); go_simp; (first | done | with_reducible rfl)); simp only [Act.put, List.getElem_toArray, List.getElem_cons_zero, List.getElem_cons_succ, zS, zT, zU]
     refine wpAnyH_take (i := 8) (v := ?_) rfl zq3 zq3 zq3 (fun _ _ _ h => (h : False).elim) (Or.inl ⟨by kernel_rfl, ?_⟩) zq9 ?_; rotate_left; (intro w' hSw; (try dsimp only at hSw); go_simp; (first | done | with_reducible rfl)); simp only [Act.put, List.getElem_toArray, List.getElem_cons_zero, List.getElem_cons_succ, zS, zT, zU]
     refine wpAnyH_take (i := 9) (v := undef) rfl zq3 zq3 zq3 (fun _ _ _ h => (h : False).elim) (Or.inr ⟨by kernel_rfl, rfl⟩) zq9 ?_; simp only [Act.put, List.getElem_toArray, List.getElem_cons_zero, List.getElem_cons_succ, zS, zT, zU]
     refine wpAnyH_take (i := 10) (v := undef) rfl zq3 zq3 zq3 (fun _ _ _ h => (h : False).elim) (Or.inr ⟨by kernel_rfl, rfl⟩) zq9 ?_; simp only [Act.put, List.getElem_toArray, List.getElem_cons_zero, List.getElem_cons_succ, zS, zT, zU]
     refine wpAnyH_take (i := 11) (v := undef) rfl zq3 zq3 zq3 (fun _ _ _ h => (h : False).elim) (Or.inr ⟨by kernel_rfl, rfl⟩) zq9 ?_; simp only [Act.put, List.getElem_toArray, List.getElem_cons_zero, List.getElem_cons_succ, zS, zT, zU]
     refine wpAnyH_take (i := 12) (v := undef) rfl zq3 zq3 zq3 (fun _ _ _ h => (h : False).elim) (Or.inr ⟨by kernel_rfl, rfl⟩) zq9 ?_; simp only [Act.put, List.getElem_toArray, List.getElem_cons_zero, List.getElem_cons_succ, zS, zT, zU]
     refine wpAnyH_take (i := 13) (v := undef) rfl zq3 zq3 zq3 (fun _ _ _ h => (h : False).elim) (Or.inr ⟨by kernel_rfl, rfl⟩) zq9 ?_; simp only [Act.put, List.getElem_toArray, List.getElem_cons_zero, List.getElem_cons_succ, zS, zT, zU]
     refine wpAnyH_take (i := 14) (v := undef) rfl zq3 zq3 zq3 (fun _ _ _ h => (h : False).elim) (Or.inr ⟨by kernel_rfl, rfl⟩) zq9 ?_; simp only [Act.put, List.getElem_toArray, List.getElem_cons_zero, List.getElem_cons_succ, zS, zT, zU]
     refine wpAnyH_take (i := 15) (v := undef) rfl zq3 zq3 zq3 (fun _ _ _ h => (h : False).elim) (Or.inr ⟨by kernel_rfl, rfl⟩) zq9 ?_; simp only [Act.put, List.getElem_toArray, List.getElem_cons_zero, List.getElem_cons_succ, zS, zT, zU]
     refine wpAnyH_take (i := 16) (v := undef) rfl zq3 zq3 zq3 (fun _ _ _ h => (h : False).elim) (Or.inr ⟨by kernel_rfl, rfl⟩) zq9 ?_; simp only [Act.put, List.getElem_toArray, List.getElem_cons_zero, List.getElem_cons_succ, zS, zT, zU]
     refine wpAnyH_take (i := 17) (v := undef) rfl zq3 zq3 zq3 (fun _ _ _ h => (h : False).elim) (Or.inr ⟨by kernel_rfl, rfl⟩) zq9 ?_; simp only [Act.put, List.getElem_toArray, List.getElem_cons_zero, List.getElem_cons_succ, zS, zT, zU]
     refine wpAnyH_take (i := 18) (v := undef) rfl zq3 zq3 zq3 (fun _ _ _ h => (h : False).elim) (Or.inr ⟨by kernel_rfl, rfl⟩) zq9 ?_; simp only [Act.put, List.getElem_toArray, List.getElem_cons_zero, List.getElem_cons_succ, zS, zT, zU]
     refine wpAnyH_take (i := 19) (v := undef) rfl zq3 zq3 zq3 (fun _ _ _ h => (h : False).elim) (Or.inr ⟨by kernel_rfl, rfl⟩) zq9 ?_; simp only [Act.put, List.getElem_toArray, List.getElem_cons_zero, List.getElem_cons_succ, zS, zT, zU]
     refine wpAnyH_take (i := 20) (v := undef) rfl zq3 zq3 zq3 (fun _ _ _ h => (h : False).elim) (Or.inr ⟨by kernel_rfl, rfl⟩) zq9 ?_; simp only [Act.put, List.getElem_toArray, List.getElem_cons_zero, List.getElem_cons_succ, zS, zT, zU]
     refine wpAnyH_take (i := 21) (v := undef) rfl zq3 zq3 zq3 (fun _ _ _ h => (h : False).elim) (Or.inr ⟨by kernel_rfl, rfl⟩) zq9 ?_; simp only [Act.put, List.getElem_toArray, List.getElem_cons_zero, List.getElem_cons_succ, zS, zT, zU]
     refine wpAnyH_take (i := 22) (v := ?_) rfl zq3 zq3 zq3 (fun _ _ _ h => (h : False).elim) (Or.inl ⟨by kernel_rfl, ?_⟩) zq9 ?_; rotate_left; (intro w' hSw; (try dsimp only at hSw); go_simp; (first | done | with_reducible rfl)); simp only [Act.put, List.getElem_toArray, List.getElem_cons_zero, List.getElem_cons_succ, zS, zT, zU]
     refine wpAnyH_done zq3 ?_ _
     refine NoPanic.normal ?_
     have BV := Lib.hid (show Below w.heap.size w V from HGB.out.trans (hBV.mono HGB.out.size))
     clear hv hBV hS1 z0 z1 z2
     go_wp2
     go_ret
     exact ⟨rfl, BV.out⟩
    rw [if_neg ht] at H
    obtain rfl := Option.some.inj H
    have hb1 : (t != 0) = true := bne_iff_ne.mpr ht
    have hb2 : (t == 0) = false := beq_eq_false_iff_ne.mpr ht
    clear H
    go_wp2_with (first
 | ((with_reducible refine gate_dst (N := 4) rfl ?_); refine box_event ?hg (N := 4) ?hd (cs := #[.string (⟨#[]⟩ : ByteArray), .int .i64 0, .string (⟨#[]⟩ : ByteArray)]) (t := 65) ?hr ?_; (case hd => rfl); (case hg => rfl); (case hr => first | (go_simp; done) | (go_simp; rfl)); intro gd hgd w4 hbox hb4; have HD := Lib.hid hbox; have HB4 := Lib.hid hb4; have HGD := Lib.hid hgd; have y0 := (blk_cell hbox 0).trans rfl; have y1 := (blk_cell hbox 1).trans rfl; have y2 := (blk_cell hbox 2).trans rfl; have f0 := blk_frozen hbox 0; have f1 := blk_frozen hbox 1; have f2 := blk_frozen hbox 2; clear hbox hb4 hgd)
 | (go_at_call 75; (with_reducible refine (impl_dataCode.calls k1 x.f1 x.f2 t _ H5.out).mono ?_); rintro e W5 ⟨rfl, hb⟩; have hbk := blk_below (X.blk_three HD.out (.string x.f0) (.int .i64 x.f1) (.string x.f2)) hb; have hgd2 : w.heap.size ≤ gd := Nat.le_trans HB.out.size (Nat.le_of_eq HGD.out.symm); have hb5 : Below w.heap.size w W5 := Below.trans (below_set (below_set (below_set (HB.out.trans (HB4.out.mono HB.out.size)) hgd2) hgd2) hgd2) (hb.mono (below_set (below_set (below_set (HB.out.trans (HB4.out.mono HB.out.size)) hgd2) hgd2) hgd2).size); have z0 : W5.cell? ⟨gd, 0, none⟩ = some (.string x.f0) := (blk_cell hbk 0).trans rfl; have z1 : W5.cell? ⟨gd, 1, none⟩ = some (.int .i64 x.f1) := (blk_cell hbk 1).trans rfl; have z2 : W5.cell? ⟨gd, 2, none⟩ = some (.string x.f2) := (blk_cell hbk 2).trans rfl; have B5 := Lib.hid hb5; clear hb hbk hgd2 hb5 y0 y1 y2 f0 f1 f2))
    go_ret
    exact ⟨rfl, B5.out⟩
   rw [if_neg c3] at H
   obtain rfl := Option.some.inj H
   clear H
   go_wp2
   go_ret
   exact ⟨rfl, HB.out⟩
end Go.Proofs.YtkjgnnhpjcofiaaGreatDoor.PX
