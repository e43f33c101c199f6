/- Texts of this claim set one behind another by wip/bundle.py: XWith. -/
import Derived.Test.YtjibadlbiapcmaaDoorBAD21
import Derived.Test.YtjibadlbiapcmaaDoorBAD20
import Derived.Test.YtjibadlbiapcmaaDoorBAD24
import Derived.Test.YtjibadlbiapcmaaDoorBAD18
import Derived.Test.YtjibadlbiapcmaaDoorBAD7
import Derived.Test.YtjibadlbiapcmaaDoorBAD6
import Derived.Test.YtjibadlbiapcmaaDoorBAD13
namespace Go.Proofs.YtjibadlbiapcmaaDoor.PX.X
open Go Go.RowKit Go.Lib Go.Proofs.YtjibadlbiapcmaaDoorW.PrintWords Go.Proofs.YtjibadlbiapcmaaDoor.PX
set_option linter.unusedVariables false
set_option linter.unusedSimpArgs false
theorem litW1 (o : FileT) (s : ByteArray) (gb : Nat) (W : World) (hg : gb < W.heap.size) (hc : W.cell? ⟨gb, 0, none⟩ = some (.string s)) :
    Calls Tryd.prog 131 #[.agg #[.string o.f0, .int .i64 o.f1, .string o.f2], .pointer (some ⟨gb, 0, none⟩)] W fun e w' => e = .returned (.bool (decide (o.f0 = s))) ∧ Below W.heap.size W w' := by
  have hne : gb ≠ W.heap.size := by omega
  have hb : (o.f0.toList == s.toList) = decide (o.f0 = s) := by
    by_cases h : o.f0 = s
    · rw [decide_eq_true h, h]
      exact beq_self_eq_true _
    · rw [decide_eq_false h]
      exact beq_eq_false_iff_ne.mpr (fun z => h (YtjibadlbiapcmaaDoorX.toList_inj z))
  generalize decide (o.f0 = s) = b at hb ⊢
  go_enter Tryd.func131, Tryd.ntmps131
  go_wp2
  go_ret
  exact ⟨rfl, (Below.refl _ W).alloc (Nat.le_refl _) _⟩
theorem w1_eg (args : Array Value) (w : World) : (callFunc 131 args).run Tryd.prog w = .ok (.enter 131 args) w := enters_of Tryd.func131 (by kernel_rfl) rfl args w
theorem litW2 (o : FileT) (s : ByteArray) (W : World) :
    Calls Tryd.prog 133 (#[.agg #[.string o.f0, .int .i64 o.f1, .string o.f2], .string s] ++ #[]) W fun e w' => e = .returned (.int .i64 (cmpP s o)) ∧ Below W.heap.size W w' := by
  have hcmp : ∀ W', Calls Tryd.prog 134 #[.string o.f0, .string s] W' fun e w' => e = .returned (.int .i64 (cmpP s o)) ∧ W' = w' := fun W' => (Any.strings_Compare Tryd.lays106 o.f0 s W').mono fun e w' ⟨he, hw⟩ => ⟨he, hw.symm⟩
  have HC := Lib.hid hcmp
  clear hcmp
  generalize cmpP s o = q at HC ⊢
  show Calls Tryd.prog 133 #[.agg #[.string o.f0, .int .i64 o.f1, .string o.f2], .string s] W _
  go_enter Tryd.func133, Tryd.ntmps133
  go_wp2_with (go_at_call 134; (with_reducible refine (HC.out _).mono ?_); rintro e w' ⟨rfl, rfl⟩)
  go_ret
  exact ⟨rfl, (Below.refl _ W).alloc (Nat.le_refl _) _⟩
theorem w2_eg (args : Array Value) (w : World) : (callFunc 133 args).run Tryd.prog w = .ok (.enter 133 args) w := enters_of Tryd.func133 (by kernel_rfl) rfl args w
/-- slices.DeleteFunc over a row of one's own, a nil one too. -/
theorem delF (p : FileT → Bool) (fn : Nat) (lb : Array Value) (eg : ∀ args w, (callFunc fn args).run Tryd.prog w = .ok (.enter fn args) w) (w : World) (base : Nat) (v : Value) (zs : List FileT)
    (hp : ∀ (W : World) (g : Nat) (x : FileT), base ≤ g → KeepBut w W g none → Calls Tryd.prog fn (#[.agg #[.string x.f0, .int .i64 x.f1, .string x.f2]] ++ lb) W fun e w' => e = .returned (.bool (p x)) ∧ Below W.heap.size W w')
    (hR : Kd.R k106 106 w base (fun _ => True) v zs) (hb : base ≤ w.heap.size) :
    Calls Tryd.prog 130 #[v, .func (.func fn) #[] lb] w fun e w' => ∃ v', e = .returned v' ∧ Kd.R k106 106 w' base (fun _ => True) v' (zs.filter fun x => !p x) ∧ ∀ w0, Below base w0 w → Below base w0 w' := by
  obtain ⟨_, ho⟩ := R_flat flatF hR
  rcases ho with ⟨rfl, h0⟩ | ⟨g, cap, cur, rfl, hbg, hg, hlc, hcm, hcs, ht⟩
  · obtain rfl := List.eq_nil_of_length_eq_zero h0
    have hC := (Kd.R_reads' hR).2.2
    have hidx : Calls Tryd.prog 128 #[.slice none 0 0, .func (.func fn) #[] lb] w fun e w' => e = .returned (.int .i64 (-1)) ∧ Below w.heap.size w w' := idxFile p fn lb eg [] none 0 w (fun W x hx hW => nomatch hx) hC (by decide)
    have HIX := Lib.hid hidx
    have HR := Lib.hid hR
    have HB := Lib.hid hb
    clear hidx hR hC hp
    show Calls Tryd.prog _ #[.slice none 0 0, .func (.func fn) #[] lb] w fun e w' => ∃ v', e = .returned v' ∧ Kd.R k106 106 w' base (fun _ => True) v' [] ∧ ∀ w0, Below base w0 w → Below base w0 w'
    go_enter Tryd.func130, Tryd.ntmps130
    go_wp2_with (go_at_call 128; (with_reducible refine HIX.out.mono ?_); rintro e w' ⟨rfl, hb'⟩; have HBB := Lib.hid hb'; clear hb')
    go_ret
    exact ⟨_, rfl, Kd.R_nil _ _ _ _ _, fun w0 h => h.trans (HBB.out.mono HB.out)⟩
  · exact deleteF p fn lb eg w base g cap zs cur (fun W x _ hW => hp W g x hbg hW) hg hbg hlc hcm hcs ht
theorem delW (s : ByteArray) (gs : Nat) {w1 w2 w3 : World} (hs : w1.heap[gs]? = some (.cells #[.string s] 9 (0, 0))) (h2 : Below w1.heap.size w1 w2) (h3 : Below w2.heap.size w2 w3) :
    ∀ (W : World) (g : Nat) (x : FileT), w2.heap.size ≤ g → KeepBut w3 W g none → Calls Tryd.prog 131 (#[.agg #[.string x.f0, .int .i64 x.f1, .string x.f2]] ++ #[.pointer (some ⟨gs, 0, none⟩)]) W fun e w' => e = .returned (.bool ((fun x : FileT => decide (x.f0 = s)) x)) ∧ Below W.heap.size W w' := fun W g x hg hW => by
  have k2 := blk_below hs h2
  have k3 := blk_below k2 h3
  have l2 : gs < w2.heap.size := (Array.getElem?_eq_some_iff.1 k2).1
  have l3 : gs < w3.heap.size := (Array.getElem?_eq_some_iff.1 k3).1
  have kW := (hW.2 gs l3 (by omega) (by simp)).trans k3
  exact litW1 x s gs W (Nat.lt_of_lt_of_le l3 hW.1) ((blk_cell kW 0).trans rfl)
theorem bsF2 (s : ByteArray) (out : List FileT) (at_ : Nat) (hit : Bool) (ha : bsAt (cmpP s) out = at_) (hh : bsHit (cmpP s) out = hit) (A0 : Option Addr) (c : Nat) (w : World) (hr : Kd.C k106 w A0 out.length out) (hbig : out.length ≤ 1048576) :
    Calls Tryd.prog 132 #[.slice A0 out.length c, .string s, .func (.func 133) #[] #[]] w fun e w' => e = .returned (.tuple #[.int .i64 (at_ : Nat), .bool hit]) ∧ Below w.heap.size w w' := by
  subst ha hh
  exact bsrF (cmpP s) (.string s) 133 w2_eg out A0 c w (fun W x _ _ => litW2 x s W) hr hbig
theorem with_eq (l : List FileT) (s : ByteArray) (f : FileT) : withV l s f = if eqF f z106 = true then without l s else (without l s).take (bsAt (cmpP s) (without l s)) ++ [f] ++ (without l s).drop (bsAt (cmpP s) (without l s)) := rfl
set_option maxHeartbeats 2000000 in
set_option maxRecDepth 8000 in
theorem with_calls (A0 : Option Addr) (c0 : Nat) (l0 : List FileT) (s : ByteArray) (f : FileT) (w : World) (hr0 : Kd.C k106 w A0 l0.length l0) (hbig : l0.length ≤ 1048576) :
    Calls Tryd.prog 85 #[.slice A0 l0.length c0, .string s, .agg #[.string f.f0, .int .i64 f.f1, .string f.f2]] w fun e w' => ∃ v, e = .returned v ∧ Kd.R k106 106 w' w.heap.size (fun _ => True) v (withV l0 s f) ∧ Below w.heap.size w w' := by
  have HR := Lib.hid hr0
  clear hr0
  have hwl : (without l0 s).length ≤ l0.length := List.length_filter_le _ _
  have hV := with_eq l0 s f
  have hat := bsAt_le (cmpP s) (without l0 s)
  obtain ⟨L, hout⟩ : ∃ q, without l0 s = q := ⟨_, rfl⟩
  rw [hout] at hV hwl hat
  have HO := Lib.hid hout
  obtain ⟨at_, hatt⟩ : ∃ q, bsAt (cmpP s) L = q := ⟨_, rfl⟩
  rw [hatt] at hV hat
  have HAT := Lib.hid hatt
  obtain ⟨hit, hhit⟩ : ∃ q, bsHit (cmpP s) L = q := ⟨_, rfl⟩
  have HHIT := Lib.hid hhit
  clear hout hatt hhit
  have HV := Lib.hid hV
  clear hV
  generalize withV l0 s f = V at HV ⊢
  cases hz : eqF f z106 with
  | true =>
    have hEQ : ∀ (d : Nat) (w : World), (Op.equalIn (d + 2) 106 (.agg #[.string f.f0, .int .i64 f.f1, .string f.f2]) (.agg #[.string ⟨#[]⟩, .int .i64 0, .string ⟨#[]⟩])).run Tryd.prog w = .ok true w := fun d w => (eqA106 d w _ _ _ _ _ _).trans (by rw [← hz]; rfl)
    have hv := HV.out
    rw [hz, if_pos rfl] at hv
    have HVV := Lib.hid hv
    clear HV hz hv
    go_enter Tryd.func85, Tryd.ntmps85
    go_wp2_with (first
      | ((with_reducible refine gate_dst (N := 4) rfl ?_); refine box_event ?hg (N := 4) ?hd (cs := #[.string s]) (t := 9) ?hr ?_; (case hd => rfl); (case hg => rfl); (case hr => first | (go_simp; done) | (go_simp; rfl)); intro gs hgs w1 hbox1 hb1; have HS := Lib.hid hbox1; have HB1 := Lib.hid hb1; have HGS := Lib.hid hgs; clear hbox1 hb1 hgs)
      | ((with_reducible refine gate_dst (N := 5) rfl ?_); refine box_event ?hg (N := 5) ?hd (cs := #[.string f.f0, .int .i64 f.f1, .string f.f2]) (t := 106) ?hr ?_; (case hd => rfl); (case hg => rfl); (case hr => first | (go_simp; done) | (go_simp; rfl)); intro gr hgr w2 hbox hb2; have HRB := Lib.hid hbox; have HB2 := Lib.hid hb2; have HGR := Lib.hid hgr; clear hbox hb2 hgr)
      | (go_at_call 83; (with_reducible refine (cloneF A0 c0 l0 w2 (Kd.C_below HR.out (HB1.out.trans (HB2.out.mono HB1.out.size))) (by omega)).mono ?_); rintro e w3 ⟨v3, rfl, ho3, hb3⟩; have HD3 := Lib.hid (delW s gs HS.out HB2.out hb3); obtain ⟨A3, c3, rfl⟩ := Kd.R_slice ho3; have O3 := Lib.hid ho3; have HB3 := Lib.hid hb3; clear ho3 hb3)
      | (go_at_call 130; (with_reducible refine (delF (fun x => decide (x.f0 = s)) 131 _ w1_eg w3 w2.heap.size (.slice A3 l0.length c3) l0 HD3.out O3.out HB3.out.size).mono ?_); rintro e w4 ⟨v4, rfl, ho4, hb4⟩; have hb4' := hb4 w2 HB3.out; have hk4 := blk_below HRB.out hb4'; have ho4' : Kd.R k106 106 w4 w2.heap.size (fun _ => True) v4 (without l0 s) := ho4; rw [HO.out] at ho4'; obtain ⟨A4, c4, rfl⟩ := Kd.R_slice ho4'; have r0 : w4.cell? ⟨gr, 0, none⟩ = some (.string f.f0) := (blk_cell hk4 0).trans rfl; have r1 : w4.cell? ⟨gr, 1, none⟩ = some (.int .i64 f.f1) := (blk_cell hk4 1).trans rfl; have r2 : w4.cell? ⟨gr, 2, none⟩ = some (.string f.f2) := (blk_cell hk4 2).trans rfl; have s0 : w4.cell? ⟨gs, 0, none⟩ = some (.string s) := (blk_cell (blk_below (blk_below HS.out HB2.out) hb4') 0).trans rfl; have O4 := Lib.hid ho4'; have B4 := Lib.hid hb4'; clear ho4 ho4' hb4 hb4' hk4))
    go_ret
    rw [HVV.out]
    exact ⟨_, rfl, Kd.R_lower O4.out (Nat.le_trans HB1.out.size HB2.out.size), (HB1.out.trans (HB2.out.mono HB1.out.size)).trans (B4.out.mono (Nat.le_trans HB1.out.size HB2.out.size))⟩
  | false =>
    have hEQ : ∀ (d : Nat) (w : World), (Op.equalIn (d + 2) 106 (.agg #[.string f.f0, .int .i64 f.f1, .string f.f2]) (.agg #[.string ⟨#[]⟩, .int .i64 0, .string ⟨#[]⟩])).run Tryd.prog w = .ok false w := fun d w => (eqA106 d w _ _ _ _ _ _).trans (by rw [← hz]; rfl)
    have hv := HV.out
    rw [hz, if_neg (by decide)] at hv
    have HVV := Lib.hid hv
    clear HV hz hv
    go_enter Tryd.func85, Tryd.ntmps85
    go_wp2_with (first
      | ((with_reducible refine gate_dst (N := 4) rfl ?_); refine box_event ?hg (N := 4) ?hd (cs := #[.string s]) (t := 9) ?hr ?_; (case hd => rfl); (case hg => rfl); (case hr => first | (go_simp; done) | (go_simp; rfl)); intro gs hgs w1 hbox1 hb1; have HS := Lib.hid hbox1; have HB1 := Lib.hid hb1; have HGS := Lib.hid hgs; clear hbox1 hb1 hgs)
      | ((with_reducible refine gate_dst (N := 5) rfl ?_); refine box_event ?hg (N := 5) ?hd (cs := #[.string f.f0, .int .i64 f.f1, .string f.f2]) (t := 106) ?hr ?_; (case hd => rfl); (case hg => rfl); (case hr => first | (go_simp; done) | (go_simp; rfl)); intro gr hgr w2 hbox hb2; have HRB := Lib.hid hbox; have HB2 := Lib.hid hb2; have HGR := Lib.hid hgr; clear hbox hb2 hgr)
      | (go_at_call 83; (with_reducible refine (cloneF A0 c0 l0 w2 (Kd.C_below HR.out (HB1.out.trans (HB2.out.mono HB1.out.size))) (by omega)).mono ?_); rintro e w3 ⟨v3, rfl, ho3, hb3⟩; have HD3 := Lib.hid (delW s gs HS.out HB2.out hb3); obtain ⟨A3, c3, rfl⟩ := Kd.R_slice ho3; have O3 := Lib.hid ho3; have HB3 := Lib.hid hb3; clear ho3 hb3)
      | (go_at_call 130; (with_reducible refine (delF (fun x => decide (x.f0 = s)) 131 _ w1_eg w3 w2.heap.size (.slice A3 l0.length c3) l0 HD3.out O3.out HB3.out.size).mono ?_); rintro e w4 ⟨v4, rfl, ho4, hb4⟩; have hb4' := hb4 w2 HB3.out; have hk4 := blk_below HRB.out hb4'; have ho4' : Kd.R k106 106 w4 w2.heap.size (fun _ => True) v4 (without l0 s) := ho4; rw [HO.out] at ho4'; obtain ⟨A4, c4, rfl⟩ := Kd.R_slice ho4'; have r0 : w4.cell? ⟨gr, 0, none⟩ = some (.string f.f0) := (blk_cell hk4 0).trans rfl; have r1 : w4.cell? ⟨gr, 1, none⟩ = some (.int .i64 f.f1) := (blk_cell hk4 1).trans rfl; have r2 : w4.cell? ⟨gr, 2, none⟩ = some (.string f.f2) := (blk_cell hk4 2).trans rfl; have s0 : w4.cell? ⟨gs, 0, none⟩ = some (.string s) := (blk_cell (blk_below (blk_below HS.out HB2.out) hb4') 0).trans rfl; have O4 := Lib.hid ho4'; have B4 := Lib.hid hb4'; clear ho4 ho4' hb4 hb4' hk4)
      | (go_at_call 132; (with_reducible refine (bsF2 s L at_ hit HAT.out HHIT.out A4 c4 w4 (Kd.R_reads' O4.out).2.2 (by omega)).mono ?_); rintro e w5 ⟨rfl, hb5⟩; have hk5 := blk_below (blk_below HRB.out B4.out) hb5; have q0 : w5.cell? ⟨gr, 0, none⟩ = some (.string f.f0) := (blk_cell hk5 0).trans rfl; have q1 : w5.cell? ⟨gr, 1, none⟩ = some (.int .i64 f.f1) := (blk_cell hk5 1).trans rfl; have q2 : w5.cell? ⟨gr, 2, none⟩ = some (.string f.f2) := (blk_cell hk5 2).trans rfl; have O5 := Lib.hid (Kd.R_below O4.out hb5); have B5 := Lib.hid (B4.out.trans (hb5.mono B4.out.size)); clear hb5 hk5)
      | (go_at_call 135; (with_reducible refine (insertF _ w2.heap.size (.slice A4 L.length c4) L f at_ w5.heap.size (Kd.R_alloc O5.out _) hat (blk_new w5 _) (fun z => absurd (own_lt (R_flat flatF O5.out) _ z) (Nat.lt_irrefl _)) (Nat.le_trans B5.out.size (by simp)) (by omega)).mono ?_); rintro e w6 ⟨v6, rfl, ho6, hb6⟩; have O6 := Lib.hid ho6; have B6 := Lib.hid (hb6 w2 (B5.out.alloc B5.out.size _)); clear ho6 hb6))
    go_ret
    rw [HVV.out]
    exact ⟨_, rfl, Kd.R_lower O6.out (Nat.le_trans HB1.out.size HB2.out.size), (HB1.out.trans (HB2.out.mono HB1.out.size)).trans (B6.out.mono (Nat.le_trans HB1.out.size HB2.out.size))⟩
end Go.Proofs.YtjibadlbiapcmaaDoor.PX.X
