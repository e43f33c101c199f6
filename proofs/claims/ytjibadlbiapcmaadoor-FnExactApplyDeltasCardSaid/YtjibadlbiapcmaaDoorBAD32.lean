/- Texts of this claim set one behind another by wip/bundle.py: XAppI, PXf35. -/
import Derived.Test.YtjibadlbiapcmaaDoorBAD30
import Derived.Test.YtjibadlbiapcmaaDoorBAD28
import Derived.Test.YtjibadlbiapcmaaDoorBAD17
import Derived.Test.YtjibadlbiapcmaaDoorBAD3
import Derived.IntWalk
import Derived.Deep.RegionHeld3
import Derived.Deep.QuietTactic
import Derived.BigQuiet
import Derived.Test.YtjibadlbiapcmaaDoorBAD12
import Derived.Test.YtjibadlbiapcmaaDoorBAD31
namespace Go.Proofs.YtjibadlbiapcmaaDoor.PX.X
open Go Go.RowKit Go.Lib Go.Proofs.YtjibadlbiapcmaaDoorW.PrintWords Go.Proofs.YtjibadlbiapcmaaDoor.PX
set_option linter.unusedVariables false
set_option linter.unusedSimpArgs false
def cellsF (x : FileT) : Value := .agg #[.string x.f0, .int .i64 x.f1, .string x.f2]
theorem isOf_calls (f : FileT) (s : ByteArray) (W : World) :
    Calls Tryd.prog 82 #[.agg #[.string f.f0, .int .i64 f.f1, .string f.f2], .string s] W fun e w' => e = .returned (.bool (fits f s)) ∧ Below W.heap.size W w' := by
  have hf : fits f s = (eqF f z106 || eqS f.f0 s) := rfl
  cases hz : eqF f z106 with
  | true =>
    have hEQ : ∀ (d : Nat) (w : World), (Op.equalIn (d + 2) 106 (.agg #[.string f.f0, .int .i64 f.f1, .string f.f2]) (.agg #[.string ⟨#[]⟩, .int .i64 0, .string ⟨#[]⟩])).run Tryd.prog w = .ok true w := fun d w => (eqA106 d w _ _ _ _ _ _).trans (by rw [← hz]; rfl)
    rw [hf, hz]
    clear hz hf
    go_enter Tryd.func82, Tryd.ntmps82
    go_wp2
    go_ret
    exact ⟨rfl, (Below.refl _ W).alloc (Nat.le_refl _) _⟩
  | false =>
    have hEQ : ∀ (d : Nat) (w : World), (Op.equalIn (d + 2) 106 (.agg #[.string f.f0, .int .i64 f.f1, .string f.f2]) (.agg #[.string ⟨#[]⟩, .int .i64 0, .string ⟨#[]⟩])).run Tryd.prog w = .ok false w := fun d w => (eqA106 d w _ _ _ _ _ _).trans (by rw [← hz]; rfl)
    have hs : (f.f0.toList == s.toList) = eqS f.f0 s := rfl
    rw [hf, hz]
    clear hz hf
    generalize eqS f.f0 s = b at hs ⊢
    go_enter Tryd.func82, Tryd.ntmps82
    go_wp2
    go_ret
    exact ⟨rfl, (Below.refl _ W).alloc (Nat.le_refl _) _⟩
def prevP (ds : List DeltaT) : Nat → Option ByteArray
  | 0 => none
  | n + 1 => some (ds.getD n z108).f0
theorem drop_getD (ds : List DeltaT) (i : Nat) (h : i < ds.length) : ds.drop i = ds.getD i z108 :: ds.drop (i + 1) := by
  rw [List.getD_eq_getElem?_getD, List.getElem?_eq_getElem h, Option.getD_some]
  exact List.drop_eq_getElem_cons h
theorem goI_step (l0 : List FileT) (ds : List DeltaT) (i : Nat) (h : i < ds.length) (L : List FileT) (d : DeltaT) (hd : ds.getD i z108 = d) : goI l0 (prevP ds i) (ds.drop i) L = if chkD l0 (prevP ds i) d = 0 then goI l0 (prevP ds (i + 1)) (ds.drop (i + 1)) (withV L d.f0 d.f2) else .inl (chkD l0 (prevP ds i) d) := by
  subst hd
  rw [drop_getD ds i h]
  rfl
theorem goI_end (l0 : List FileT) (ds : List DeltaT) (L : List FileT) : goI l0 (prevP ds ds.length) (ds.drop ds.length) L = .inr L := by
  rw [List.drop_length]
  rfl
theorem blk_seven {w : World} {g : Nat} {t : TypeId} {a0 a1 a2 a3 a4 a5 a6 : Value} (h : w.heap[g]? = some (.cells #[a0, a1, a2, a3, a4, a5, a6] t (0, 0))) (v0 v1 v2 v3 v4 v5 v6 : Value) : ((((((((w).setCell ⟨g, 0, none⟩ v0).setCell ⟨g, 1, none⟩ v1).setCell ⟨g, 2, none⟩ v2).setCell ⟨g, 3, none⟩ v3).setCell ⟨g, 4, none⟩ v4).setCell ⟨g, 5, none⟩ v5).setCell ⟨g, 6, none⟩ v6).heap[g]? = some (.cells #[v0, v1, v2, v3, v4, v5, v6] t (0, 0)) :=
  blk_put (cs := #[v0, v1, v2, v3, v4, v5, a6]) (blk_put (cs := #[v0, v1, v2, v3, v4, a5, a6]) (blk_put (cs := #[v0, v1, v2, v3, a4, a5, a6]) (blk_put (cs := #[v0, v1, v2, a3, a4, a5, a6]) (blk_put (cs := #[v0, v1, a2, a3, a4, a5, a6]) (blk_put (cs := #[v0, a1, a2, a3, a4, a5, a6]) (blk_put (cs := #[a0, a1, a2, a3, a4, a5, a6]) (h) 0 v0 rfl) 1 v1 rfl) 2 v2 rfl) 3 v3 rfl) 4 v4 rfl) 5 v5 rfl) 6 v6 rfl
theorem kc {a : Addr} {v : Value} {V V' : World} (h : V.cell? a = some v) (hb : Below V.heap.size V V') : V'.cell? a = some v := (hb.cell (World.block_lt_of_cell? V _ h)).trans h
theorem keepA {a0 a1 a2 a3 a4 a5 a6 : Addr} {v0 v1 v2 v3 v4 v5 v6 : Value} {W V V' : World} (h : V.cell? a0 = some v0 ∧ V.cell? a1 = some v1 ∧ V.cell? a2 = some v2 ∧ V.cell? a3 = some v3 ∧ V.cell? a4 = some v4 ∧ V.cell? a5 = some v5 ∧ V.cell? a6 = some v6 ∧ Below W.heap.size W V) (hb : Below V.heap.size V V') : V'.cell? a0 = some v0 ∧ V'.cell? a1 = some v1 ∧ V'.cell? a2 = some v2 ∧ V'.cell? a3 = some v3 ∧ V'.cell? a4 = some v4 ∧ V'.cell? a5 = some v5 ∧ V'.cell? a6 = some v6 ∧ Below W.heap.size W V' :=
  ⟨kc h.1 hb, kc h.2.1 hb, kc h.2.2.1 hb, kc h.2.2.2.1 hb, kc h.2.2.2.2.1 hb, kc h.2.2.2.2.2.1 hb, kc h.2.2.2.2.2.2.1 hb, h.2.2.2.2.2.2.2.trans (hb.mono h.2.2.2.2.2.2.2.size)⟩
theorem keepB {a0 a1 a2 a3 a4 a5 a6 a7 : Addr} {v0 v1 v2 v3 v4 v5 v6 v7 : Value} {W V V' : World} (h : V.cell? a0 = some v0 ∧ V.cell? a1 = some v1 ∧ V.cell? a2 = some v2 ∧ V.cell? a3 = some v3 ∧ V.cell? a4 = some v4 ∧ V.cell? a5 = some v5 ∧ V.cell? a6 = some v6 ∧ V.cell? a7 = some v7 ∧ Below W.heap.size W V) (hb : Below V.heap.size V V') : V'.cell? a0 = some v0 ∧ V'.cell? a1 = some v1 ∧ V'.cell? a2 = some v2 ∧ V'.cell? a3 = some v3 ∧ V'.cell? a4 = some v4 ∧ V'.cell? a5 = some v5 ∧ V'.cell? a6 = some v6 ∧ V'.cell? a7 = some v7 ∧ Below W.heap.size W V' :=
  ⟨kc h.1 hb, kc h.2.1 hb, kc h.2.2.1 hb, kc h.2.2.2.1 hb, kc h.2.2.2.2.1 hb, kc h.2.2.2.2.2.1 hb, kc h.2.2.2.2.2.2.1 hb, kc h.2.2.2.2.2.2.2.1 hb, h.2.2.2.2.2.2.2.2.trans (hb.mono h.2.2.2.2.2.2.2.2.size)⟩
theorem isOf_eg (args : Array Value) (w : World) : (callFunc 82 args).run Tryd.prog w = .ok (.enter 82 args) w := enters_of Tryd.func82 (by kernel_rfl) rfl args w
theorem withV_len2 (l : List FileT) (s : ByteArray) (f : FileT) : (withV l s f).length ≤ l.length + 1 := by
  have h : (without l s).length ≤ l.length := List.length_filter_le _ _
  unfold withV
  split
  · omega
  · rw [List.length_append, List.length_append, List.length_take, List.length_drop, List.length_singleton]
    omega
theorem R_awayF {α : Type} {d : Kd α} {e : Nat} {w : World} {base : Nat} {v : Value} {xs : List α} {g j : Nat} (h : d.R e w base (fun _ => True) v xs) (hg : g < base) (u : Value) : d.R e (w.setCell ⟨g, j, none⟩ u) base (fun _ => True) v xs :=
  Kd.R_mono (Kd.R_far (p := ⟨g, j, none⟩) (Kd.R_mono (ok' := fun k => base ≤ k) (Kd.R_bound h) (fun _ hk => hk.2.1)) (fun k hk => by show k ≠ g; omega) u) (fun _ _ => trivial)
set_option maxHeartbeats 2000000 in
set_option maxRecDepth 100000 in
theorem appI_calls (k : Nat) (A0 : Option Addr) (c0 : Nat) (l0 : List FileT) (A1 : Option Addr) (c1 : Nat) (ds : List DeltaT) (w : World) (hr0 : Kd.C k106 w A0 l0.length l0) (hc0 : l0.length ≤ c0) (hr1 : Kd.C k108 w A1 ds.length ds) (hc1 : ds.length ≤ c1) (hbig : l0.length + ds.length ≤ 1048576)
    (c : Int) (hF : impl_FilesFault.f k l0 = some c) (hc : c = 0) (r1 : Int) (r2 : List FileT) (hR : ∀ L, goI l0 none ds l0 = .inr L → impl_rightFiles.f k L = some (r1, r2)) (hI : ∀ q, goI l0 none ds l0 = .inl q → (q, ([] : List FileT)) = (r1, r2)) :
    Calls Tryd.prog 35 #[.slice A0 l0.length c0, .slice A1 ds.length c1] w fun e w' => ∃ v, e = .returned (.agg #[.int .i64 r1, v]) ∧ Kd.R k106 106 w' w.heap.size (fun _ => True) v r2 ∧ Below w.heap.size w w' := by
  have H0 := Lib.hid hr0
  have H1 := Lib.hid hr1
  have HC0 := Lib.hid hc0
  have HF := Lib.hid hF
  have HR := Lib.hid hR
  have HI := Lib.hid hI
  have hbl : l0.length * 40 ≤ 140737488355328 := by omega
  subst hc
  clear hr0 hr1 hF hR hI hc0
  have hu := Tryd.underlying108
  have huF := Tryd.underlying106
  go_enter Tryd.func35, Tryd.ntmps35
  go_wp2_with (first
    | ((with_reducible refine gate_dst (N := 4) rfl ?_); refine box_event ?hg (N := 4) ?hd (cs := #[.int .i64 0, .slice none 0 0]) (t := 26) ?hr ?_; (case hd => rfl); (case hg => rfl); (case hr => first | (go_simp; done) | (go_simp; rfl)); intro gr hgr w1 hbox hb1; have HRB := Lib.hid hbox; have HB1 := Lib.hid hb1; have HGR := Lib.hid hgr; clear hbox hb1 hgr)
    | (go_at_call 81; (with_reducible refine (impl_FilesFault.calls k A0 c0 l0 0 w1 (Kd.C_below H0.out HB1.out) HC0.out HF.out).mono ?_); rintro e w2 ⟨rfl, hb2⟩; have HB2 := Lib.hid hb2; clear hb2)
    | (go_at_call 83; (with_reducible refine (cloneF A0 c0 l0 w2 (Kd.C_below H0.out (HB1.out.trans (HB2.out.mono HB1.out.size))) hbl).mono ?_); rintro e w3 ⟨v3, rfl, ho3, hb3⟩; obtain ⟨A3, c3, rfl⟩ := Kd.R_slice ho3; have O3 := Lib.hid ho3; have HB3 := Lib.hid hb3; clear ho3 hb3))
  go_loopg [7, 20] ds.length (fun gg s7 s20 wr => ∃ (i : Nat) (L : List FileT) (A : Option Addr) (c : Nat), s7 = .slice A L.length c ∧ s20 = .int .i64 i ∧ i ≤ ds.length ∧ ds.length - i ≤ gg ∧ Aside (Kd.R k106 106 wr w1.heap.size (fun _ => True) (.slice A L.length c) L) ∧ Aside (Below w1.heap.size w1 wr) ∧ Aside (L.length ≤ l0.length + i) ∧ Aside (goI l0 (prevP ds i) (ds.drop i) L = goI l0 none ds l0))
  case atStart => exact ⟨0, l0, A3, c3, rfl, rfl, Nat.zero_le _, by omega, Kd.R_lower O3.out HB2.out.size, HB2.out.trans (HB3.out.mono HB2.out.size), Nat.le_refl _, rfl⟩
  case round =>
    obtain ⟨i, L, A, c, rfl, rfl, hi, hg, OR, BW, HL, HG⟩ := hrel
    by_cases hlt : i < ds.length
    · have hmz : (0 : Int) ≤ (i : Int) := Int.natCast_nonneg i
      have hml : (i : Int) < (ds.length : Int) := by omega
      obtain ⟨ad, rfl, q0, q1, q2, q3, q4, q5, q6⟩ := at_T108 (Kd.C_below H1.out (HB1.out.trans (BW.out.mono HB1.out.size))) (i : Int) hmz hml
      have hx : rd_T108 ds (i : Int) = ds.getD i z108 := by
        show ds.getD ((i : Int)).toNat _ = _
        rw [Int.toNat_natCast]
      rw [hx] at q0 q1 q2 q3 q4 q5 q6
      rw [Int.toNat_natCast] at q0 q1 q2 q3 q4 q5 q6
      clear hx
      have hstep := fun d hd => goI_step l0 ds i hlt L d hd
      obtain ⟨d, hd⟩ : ∃ d, ds.getD i z108 = d := ⟨_, rfl⟩
      have HS := Lib.hid (hstep d hd)
      rw [hd] at q0 q1 q2 q3 q4 q5 q6
      clear hstep hd
      go_wp2_with ((with_reducible refine gate_dst (N := 9) rfl ?_); refine box_event ?hg (N := 9) ?hd (cs := #[.string (⟨#[]⟩ : ByteArray), .string (⟨#[]⟩ : ByteArray), .int .i64 0, .string (⟨#[]⟩ : ByteArray), .string (⟨#[]⟩ : ByteArray), .int .i64 0, .string (⟨#[]⟩ : ByteArray)]) (t := 108) ?hr ?_; (case hd => rfl); (case hg => rfl); (case hr => first | (go_simp; done) | (go_simp; rfl)); intro gd hgd w4 hbox hb4; have HD := Lib.hid hbox; have HB4 := Lib.hid hb4; have HGD := Lib.hid hgd; have y0 := (blk_cell hbox 0).trans rfl; have y1 := (blk_cell hbox 1).trans rfl; have y2 := (blk_cell hbox 2).trans rfl; have y3 := (blk_cell hbox 3).trans rfl; have y4 := (blk_cell hbox 4).trans rfl; have y5 := (blk_cell hbox 5).trans rfl; have y6 := (blk_cell hbox 6).trans rfl; have f0 := blk_frozen hbox 0; have f1 := blk_frozen hbox 1; have f2 := blk_frozen hbox 2; have f3 := blk_frozen hbox 3; have f4 := blk_frozen hbox 4; have f5 := blk_frozen hbox 5; have f6 := blk_frozen hbox 6; clear hbox hb4 hgd)
      have hbk := blk_seven HD.out (.string d.f0) (.string d.f1.f0) (.int .i64 d.f1.f1) (.string d.f1.f2) (.string d.f2.f0) (.int .i64 d.f2.f1) (.string d.f2.f2)
      have hgd : wr.heap.size ≤ gd := Nat.le_of_eq HGD.out.symm
      have hb5 : Below wr.heap.size wr (((((((w4.setCell ⟨gd, 0, none⟩ (.string d.f0)).setCell ⟨gd, 1, none⟩ (.string d.f1.f0)).setCell ⟨gd, 2, none⟩ (.int .i64 d.f1.f1)).setCell ⟨gd, 3, none⟩ (.string d.f1.f2)).setCell ⟨gd, 4, none⟩ (.string d.f2.f0)).setCell ⟨gd, 5, none⟩ (.int .i64 d.f2.f1)).setCell ⟨gd, 6, none⟩ (.string d.f2.f2)) := below_set (below_set (below_set (below_set (below_set (below_set (below_set HB4.out hgd) hgd) hgd) hgd) hgd) hgd) hgd
      generalize (((((((w4.setCell ⟨gd, 0, none⟩ (.string d.f0)).setCell ⟨gd, 1, none⟩ (.string d.f1.f0)).setCell ⟨gd, 2, none⟩ (.int .i64 d.f1.f1)).setCell ⟨gd, 3, none⟩ (.string d.f1.f2)).setCell ⟨gd, 4, none⟩ (.string d.f2.f0)).setCell ⟨gd, 5, none⟩ (.int .i64 d.f2.f1)).setCell ⟨gd, 6, none⟩ (.string d.f2.f2)) = W5 at hbk hb5 ⊢
      have HBK := Lib.hid hbk
      have B5 := Lib.hid hb5
      have x0 : W5.cell? ⟨gd, 0, none⟩ = some (.string d.f0) := (blk_cell hbk 0).trans rfl
      have x1 : W5.cell? ⟨gd, 1, none⟩ = some (.string d.f1.f0) := (blk_cell hbk 1).trans rfl
      have x2 : W5.cell? ⟨gd, 2, none⟩ = some (.int .i64 d.f1.f1) := (blk_cell hbk 2).trans rfl
      have x3 : W5.cell? ⟨gd, 3, none⟩ = some (.string d.f1.f2) := (blk_cell hbk 3).trans rfl
      have x4 : W5.cell? ⟨gd, 4, none⟩ = some (.string d.f2.f0) := (blk_cell hbk 4).trans rfl
      have x5 : W5.cell? ⟨gd, 5, none⟩ = some (.int .i64 d.f2.f1) := (blk_cell hbk 5).trans rfl
      have x6 : W5.cell? ⟨gd, 6, none⟩ = some (.string d.f2.f2) := (blk_cell hbk 6).trans rfl
      clear q0 q1 q2 q3 q4 q5 q6 y0 y1 y2 y3 y4 y5 y6 f0 f1 f2 f3 f4 f5 f6 hbk hb5 HD HB4
      have HCH : Hid (chkD l0 (prevP ds i) d = if behind (prevP ds i) d.f0 = true then (if eqF d.f1 d.f2 = true then 1 else if fits d.f1 d.f0 = true then (if fits d.f2 d.f0 = true then (if eqF (findF l0 d.f0) d.f1 = true then 0 else 6) else 1) else 1) else 1) := Lib.hid rfl
      have HCA1 := Lib.hid (fun W => isOf_calls d.f1 d.f0 W)
      have HCA2 := Lib.hid (fun W => isOf_calls d.f2 d.f0 W)
      have hgrr : gr < w1.heap.size := (Array.getElem?_eq_some_iff.1 HRB.out).1
      have HGRR := Lib.hid hgrr
      clear hgrr
      obtain ⟨e12, he12⟩ : ∃ b, eqF d.f1 d.f2 = b := ⟨_, rfl⟩
      have hEQ : ∀ (q : Nat) (W : World), (Op.equalIn (q + 2) 106 (.agg #[.string d.f1.f0, .int .i64 d.f1.f1, .string d.f1.f2]) (.agg #[.string d.f2.f0, .int .i64 d.f2.f1, .string d.f2.f2])).run Tryd.prog W = .ok e12 W := fun q W => (eqA106 q W _ _ _ _ _ _).trans (by rw [← he12]; rfl)
      have HE12 := Lib.hid he12
      clear he12
      obtain ⟨b1, hb1⟩ : ∃ b, fits d.f1 d.f0 = b := ⟨_, rfl⟩
      obtain ⟨b2, hb2⟩ : ∃ b, fits d.f2 d.f0 = b := ⟨_, rfl⟩
      rw [hb1] at HCA1
      rw [hb2] at HCA2
      have HF1 := Lib.hid hb1
      have HF2 := Lib.hid hb2
      clear hb1 hb2
      rcases Nat.eq_zero_or_pos i with hz | hp
      rotate_left
      have hp1 : decide ((0 : Int) < (i : Int)) = true := decide_eq_true (by omega)
      obtain ⟨m, hm⟩ : ∃ m, i = m + 1 := ⟨i - 1, by omega⟩
      have hwi : IntKind.i64.wrap ((i : Int) - 1) = (m : Int) := (IntWalk.i64_in _ (by omega)).trans (by omega)
      have hm0 : (0 : Int) ≤ (m : Int) := Int.natCast_nonneg m
      have hm1 : (m : Int) < (ds.length : Int) := by omega
      obtain ⟨a3, e3, r0, _, _, _, _, _, _⟩ := at_T108 (Kd.C_below H1.out (HB1.out.trans ((BW.out.trans (B5.out.mono BW.out.size)).mono HB1.out.size))) (m : Int) hm0 hm1
      obtain rfl : ad = a3 := Option.some.inj e3
      have hxm : rd_T108 ds (m : Int) = ds.getD m z108 := by
        show ds.getD ((m : Int)).toNat _ = _
        rw [Int.toNat_natCast]
      rw [hxm, Int.toNat_natCast] at r0
      have hbh : behind (prevP ds i) d.f0 = lessB (ds.getD m z108).f0 d.f0 := by rw [hm]; rfl
      clear hxm e3
      generalize ds.getD m z108 = y at r0 hbh
      have HM := Lib.hid hm
      clear hm
      rcases Bool.eq_false_or_eq_true (lessB y.f0 d.f0) with hl | hl
      rotate_left
      · have hbl : Op.bytesLess y.f0.toList d.f0.toList = false := by rw [toList_data, toList_data]; exact hl
        have hch := HCH.out
        rw [hbh, hl, if_neg (by decide)] at hch
        clear hbh hl
        go_quiet (fail)
        have BV := Lib.hid (show Below wr.heap.size wr (W5.drewN nq) from pw_below_drewN B5.out nq)
        generalize W5.drewN nq = V at BV ⊢
        clear x0 x1 x2 x3 x4 x5 x6
        have hG := HG.out
        rw [HS.out, hch, if_neg (by decide)] at hG
        have hres := HI.out 1 hG.symm
        have BVW := Lib.hid (BW.out.trans (BV.out.mono BW.out.size))
        have hrr := blk_below HRB.out BVW.out
        have z0 : V.cell? ⟨gr, 0, none⟩ = some (.int .i64 0) := (blk_cell hrr 0).trans rfl
        have z1 : V.cell? ⟨gr, 1, none⟩ = some (.slice none 0 0) := (blk_cell hrr 1).trans rfl
        have f0 := blk_frozen hrr 0
        have f1 := blk_frozen hrr 1
        have R9 := Lib.hid hrr
        obtain ⟨hr1, hr2⟩ := Prod.mk.inj hres
        subst hr1 hr2
        clear hG hres hrr hch
        go_wp2
        have hgr : w.heap.size ≤ gr := Nat.le_of_eq HGR.out.symm
        refine bodyPost_ret (results_cell_row rfl _ _ gr 26 #[.int .i64 1, .slice none 0 0] (0, 0) _ rfl (blk_set (blk_set R9.out 0 (.int .i64 1)) 1 (.slice none 0 0)) Tryd.underlying26 rfl (by kernel_rfl)) rfl ?_
        exact ⟨_, rfl, Kd.R_nil _ _ _ _ _, below_set (below_set (HB1.out.trans (BVW.out.mono HB1.out.size)) hgr) hgr⟩
      have hbh : behind (prevP ds i) d.f0 = true := by rw [hz]; rfl
      have hp0 : ¬ 0 < i := by omega
      have hp1 : decide ((0 : Int) < (i : Int)) = false := decide_eq_false (by omega)
      have hp2 : decide (0 < i) = false := decide_eq_false hp0
      have HZ := Lib.hid hz
      clear hz
      rotate_left
      have hbl : Op.bytesLess y.f0.toList d.f0.toList = true := by rw [toList_data, toList_data]; exact hl
      rw [hl] at hbh
      clear hl
      all_goals (
        have hch := HCH.out
        rw [hbh, if_pos rfl, HE12.out, HF1.out, HF2.out] at hch
        clear hbh HCH
        cases e12 with
        | true =>
          rw [if_pos rfl] at hch
          go_quiet (fail)
          have BV := Lib.hid (show Below wr.heap.size wr (W5.drewN nq) from pw_below_drewN B5.out nq)
          generalize W5.drewN nq = V at BV ⊢
          clear x0 x1 x2 x3 x4 x5 x6
          have hG := HG.out
          rw [HS.out, hch, if_neg (by decide)] at hG
          have hres := HI.out 1 hG.symm
          have BVW := Lib.hid (BW.out.trans (BV.out.mono BW.out.size))
          have hrr := blk_below HRB.out BVW.out
          have z0 : V.cell? ⟨gr, 0, none⟩ = some (.int .i64 0) := (blk_cell hrr 0).trans rfl
          have z1 : V.cell? ⟨gr, 1, none⟩ = some (.slice none 0 0) := (blk_cell hrr 1).trans rfl
          have f0 := blk_frozen hrr 0
          have f1 := blk_frozen hrr 1
          have R9 := Lib.hid hrr
          obtain ⟨hr1, hr2⟩ := Prod.mk.inj hres
          subst hr1 hr2
          clear hG hres hrr hch
          go_wp2
          have hgr : w.heap.size ≤ gr := Nat.le_of_eq HGR.out.symm
          refine bodyPost_ret (results_cell_row rfl _ _ gr 26 #[.int .i64 1, .slice none 0 0] (0, 0) _ rfl (blk_set (blk_set R9.out 0 (.int .i64 1)) 1 (.slice none 0 0)) Tryd.underlying26 rfl (by kernel_rfl)) rfl ?_
          exact ⟨_, rfl, Kd.R_nil _ _ _ _ _, below_set (below_set (HB1.out.trans (BVW.out.mono HB1.out.size)) hgr) hgr⟩
        | false =>
          rw [if_neg (by decide)] at hch
          cases b1 with
          | false =>
            have hEG := isOf_eg
            refine wp_region_noPanic ?_
            first
              | refine wp_region_held_drew (S := fun w' => w'.cell? ⟨gd, 0, none⟩ = some (.string d.f0) ∧ w'.cell? ⟨gd, 1, none⟩ = some (.string d.f1.f0) ∧ w'.cell? ⟨gd, 2, none⟩ = some (.int .i64 d.f1.f1) ∧ w'.cell? ⟨gd, 3, none⟩ = some (.string d.f1.f2) ∧ w'.cell? ⟨gd, 4, none⟩ = some (.string d.f2.f0) ∧ w'.cell? ⟨gd, 5, none⟩ = some (.int .i64 d.f2.f1) ∧ w'.cell? ⟨gd, 6, none⟩ = some (.string d.f2.f2) ∧ w'.cell? (ad.add (m * 7)) = some (.string y.f0) ∧ Below W5.heap.size W5 w') (by kernel_rfl) ⟨x0, x1, x2, x3, x4, x5, x6, r0, below_drew1 (Below.refl _ _)⟩ ?_
              | refine wp_region_held_drew (S := fun w' => w'.cell? ⟨gd, 0, none⟩ = some (.string d.f0) ∧ w'.cell? ⟨gd, 1, none⟩ = some (.string d.f1.f0) ∧ w'.cell? ⟨gd, 2, none⟩ = some (.int .i64 d.f1.f1) ∧ w'.cell? ⟨gd, 3, none⟩ = some (.string d.f1.f2) ∧ w'.cell? ⟨gd, 4, none⟩ = some (.string d.f2.f0) ∧ w'.cell? ⟨gd, 5, none⟩ = some (.int .i64 d.f2.f1) ∧ w'.cell? ⟨gd, 6, none⟩ = some (.string d.f2.f2) ∧ Below W5.heap.size W5 w') (by kernel_rfl) ⟨x0, x1, x2, x3, x4, x5, x6, below_drew1 (Below.refl _ _)⟩ ?_
            intro hS0
            generalize hLL : Array.replicate _ false = lst
            obtain rfl : lst = #[false, false, false, false, false, false, false, false, false, false, false, false, false, false, false, false, false, false, false, false, false, false, false, false, false, false, false, false, false, false, false, false, false, false, false, false, false, false, false] := hLL.symm.trans (by kernel_rfl)
            clear hLL
            refine wpAnyH_take (i := 0) (v := ?_) rfl (by kernel_rfl) (by kernel_rfl) (by kernel_rfl) (fun _ _ _ h => (h : False).elim) (Or.inl ⟨by kernel_rfl, ?_⟩) (by assumption) ?_; rotate_left; (intro w' hSw; (try dsimp only at hSw); go_simp; (first | done | with_reducible rfl)); simp only [Act.put, List.setIfInBounds_toArray, List.set_cons_zero, List.set_cons_succ]
            refine wpAnyH_take (i := 1) (v := ?_) rfl (by kernel_rfl) (by kernel_rfl) (by kernel_rfl) (fun _ _ _ h => (h : False).elim) (Or.inl ⟨by kernel_rfl, ?_⟩) (by assumption) ?_; rotate_left; (intro w' hSw; (try dsimp only at hSw); go_simp; (first | done | with_reducible rfl)); simp only [Act.put, List.setIfInBounds_toArray, List.set_cons_zero, List.set_cons_succ]
            refine wpAnyH_take (i := 2) (v := ?_) rfl (by kernel_rfl) (by kernel_rfl) (by kernel_rfl) (fun _ _ _ h => (h : False).elim) (Or.inl ⟨by kernel_rfl, ?_⟩) (by assumption) ?_; rotate_left; (intro w' hSw; (try dsimp only at hSw); go_simp; (first | done | with_reducible rfl)); simp only [Act.put, List.setIfInBounds_toArray, List.set_cons_zero, List.set_cons_succ]
            first | (have hq_ := hwi; clear hq_; (refine wpAnyH_take (i := 3) (v := ?_) rfl (by kernel_rfl) (by kernel_rfl) (by kernel_rfl) (fun _ _ _ h => (h : False).elim) (Or.inl ⟨by kernel_rfl, ?_⟩) (by assumption) ?_; rotate_left; (intro w' hSw; (try dsimp only at hSw); go_simp; (first | done | with_reducible rfl)); simp only [Act.put, List.setIfInBounds_toArray, List.set_cons_zero, List.set_cons_succ])) | (refine wpAnyH_take (i := 3) (v := undef) rfl (by kernel_rfl) (by kernel_rfl) (by kernel_rfl) (fun _ _ _ h => (h : False).elim) (Or.inr ⟨by kernel_rfl, rfl⟩) (by assumption) ?_; simp only [Act.put, List.setIfInBounds_toArray, List.set_cons_zero, List.set_cons_succ])
            first | (have hq_ := hwi; clear hq_; (refine wpAnyH_take (i := 4) (v := ?_) rfl (by kernel_rfl) (by kernel_rfl) (by kernel_rfl) (fun _ _ _ h => (h : False).elim) (Or.inl ⟨by kernel_rfl, ?_⟩) (by assumption) ?_; rotate_left; (intro w' hSw; (try dsimp only at hSw); go_simp; (first | done | with_reducible rfl)); simp only [Act.put, List.setIfInBounds_toArray, List.set_cons_zero, List.set_cons_succ])) | (refine wpAnyH_take (i := 4) (v := undef) rfl (by kernel_rfl) (by kernel_rfl) (by kernel_rfl) (fun _ _ _ h => (h : False).elim) (Or.inr ⟨by kernel_rfl, rfl⟩) (by assumption) ?_; simp only [Act.put, List.setIfInBounds_toArray, List.set_cons_zero, List.set_cons_succ])
            first | (have hq_ := hwi; clear hq_; (refine wpAnyH_take (i := 5) (v := ?_) rfl (by kernel_rfl) (by kernel_rfl) (by kernel_rfl) (fun _ _ _ h => (h : False).elim) (Or.inl ⟨by kernel_rfl, ?_⟩) (by assumption) ?_; rotate_left; (intro w' hSw; (try dsimp only at hSw); go_simp; (first | done | with_reducible rfl)); simp only [Act.put, List.setIfInBounds_toArray, List.set_cons_zero, List.set_cons_succ])) | (refine wpAnyH_take (i := 5) (v := undef) rfl (by kernel_rfl) (by kernel_rfl) (by kernel_rfl) (fun _ _ _ h => (h : False).elim) (Or.inr ⟨by kernel_rfl, rfl⟩) (by assumption) ?_; simp only [Act.put, List.setIfInBounds_toArray, List.set_cons_zero, List.set_cons_succ])
            first | (have hq_ := hwi; clear hq_; (refine wpAnyH_take (i := 6) (v := ?_) rfl (by kernel_rfl) (by kernel_rfl) (by kernel_rfl) (fun _ _ _ h => (h : False).elim) (Or.inl ⟨by kernel_rfl, ?_⟩) (by assumption) ?_; rotate_left; (intro w' hSw; (try dsimp only at hSw); go_simp; (first | done | with_reducible rfl)); simp only [Act.put, List.setIfInBounds_toArray, List.set_cons_zero, List.set_cons_succ])) | (refine wpAnyH_take (i := 6) (v := undef) rfl (by kernel_rfl) (by kernel_rfl) (by kernel_rfl) (fun _ _ _ h => (h : False).elim) (Or.inr ⟨by kernel_rfl, rfl⟩) (by assumption) ?_; simp only [Act.put, List.setIfInBounds_toArray, List.set_cons_zero, List.set_cons_succ])
            first | (have hq_ := hwi; clear hq_; (refine wpAnyH_take (i := 7) (v := ?_) rfl (by kernel_rfl) (by kernel_rfl) (by kernel_rfl) (fun _ _ _ h => (h : False).elim) (Or.inl ⟨by kernel_rfl, ?_⟩) (by assumption) ?_; rotate_left; (intro w' hSw; (try dsimp only at hSw); go_simp; (first | done | with_reducible rfl)); simp only [Act.put, List.setIfInBounds_toArray, List.set_cons_zero, List.set_cons_succ])) | (refine wpAnyH_take (i := 7) (v := undef) rfl (by kernel_rfl) (by kernel_rfl) (by kernel_rfl) (fun _ _ _ h => (h : False).elim) (Or.inr ⟨by kernel_rfl, rfl⟩) (by assumption) ?_; simp only [Act.put, List.setIfInBounds_toArray, List.set_cons_zero, List.set_cons_succ])
            first | (have hq_ := hwi; clear hq_; (refine wpAnyH_take (i := 8) (v := ?_) rfl (by kernel_rfl) (by kernel_rfl) (by kernel_rfl) (fun _ _ _ h => (h : False).elim) (Or.inl ⟨by kernel_rfl, ?_⟩) (by assumption) ?_; rotate_left; (intro w' hSw; (try dsimp only at hSw); go_simp; (first | done | with_reducible rfl)); simp only [Act.put, List.setIfInBounds_toArray, List.set_cons_zero, List.set_cons_succ])) | (refine wpAnyH_take (i := 8) (v := undef) rfl (by kernel_rfl) (by kernel_rfl) (by kernel_rfl) (fun _ _ _ h => (h : False).elim) (Or.inr ⟨by kernel_rfl, rfl⟩) (by assumption) ?_; simp only [Act.put, List.setIfInBounds_toArray, List.set_cons_zero, List.set_cons_succ])
            first | (have hq_ := hwi; clear hq_; (refine wpAnyH_take (i := 9) (v := ?_) rfl (by kernel_rfl) (by kernel_rfl) (by kernel_rfl) (fun _ _ _ h => (h : False).elim) (Or.inl ⟨by kernel_rfl, ?_⟩) (by assumption) ?_; rotate_left; (intro w' hSw; (try dsimp only at hSw); go_simp; (first | done | with_reducible rfl)); simp only [Act.put, List.setIfInBounds_toArray, List.set_cons_zero, List.set_cons_succ])) | (refine wpAnyH_take (i := 9) (v := undef) rfl (by kernel_rfl) (by kernel_rfl) (by kernel_rfl) (fun _ _ _ h => (h : False).elim) (Or.inr ⟨by kernel_rfl, rfl⟩) (by assumption) ?_; simp only [Act.put, List.setIfInBounds_toArray, List.set_cons_zero, List.set_cons_succ])
            first | (have hq_ := hwi; clear hq_; (refine wpAnyH_take (i := 10) (v := ?_) rfl (by kernel_rfl) (by kernel_rfl) (by kernel_rfl) (fun _ _ _ h => (h : False).elim) (Or.inl ⟨by kernel_rfl, ?_⟩) (by assumption) ?_; rotate_left; (intro w' hSw; (try dsimp only at hSw); go_simp; (first | done | with_reducible rfl)); simp only [Act.put, List.setIfInBounds_toArray, List.set_cons_zero, List.set_cons_succ])) | (refine wpAnyH_take (i := 10) (v := undef) rfl (by kernel_rfl) (by kernel_rfl) (by kernel_rfl) (fun _ _ _ h => (h : False).elim) (Or.inr ⟨by kernel_rfl, rfl⟩) (by assumption) ?_; simp only [Act.put, List.setIfInBounds_toArray, List.set_cons_zero, List.set_cons_succ])
            first | (have hq_ := hwi; clear hq_; (refine wpAnyH_take (i := 11) (v := ?_) rfl (by kernel_rfl) (by kernel_rfl) (by kernel_rfl) (fun _ _ _ h => (h : False).elim) (Or.inl ⟨by kernel_rfl, ?_⟩) (by assumption) ?_; rotate_left; (intro w' hSw; (try dsimp only at hSw); go_simp; (first | done | with_reducible rfl)); simp only [Act.put, List.setIfInBounds_toArray, List.set_cons_zero, List.set_cons_succ])) | (refine wpAnyH_take (i := 11) (v := undef) rfl (by kernel_rfl) (by kernel_rfl) (by kernel_rfl) (fun _ _ _ h => (h : False).elim) (Or.inr ⟨by kernel_rfl, rfl⟩) (by assumption) ?_; simp only [Act.put, List.setIfInBounds_toArray, List.set_cons_zero, List.set_cons_succ])
            refine wpAnyH_take (i := 12) (v := ?_) rfl (by kernel_rfl) (by kernel_rfl) (by kernel_rfl) (fun _ _ _ h => (h : False).elim) (Or.inl ⟨by kernel_rfl, ?_⟩) (by assumption) ?_; rotate_left; (intro w' hSw; (try dsimp only at hSw); go_simp; (first | done | with_reducible rfl)); simp only [Act.put, List.setIfInBounds_toArray, List.set_cons_zero, List.set_cons_succ]
            refine wpAnyH_take (i := 13) (v := ?_) rfl (by kernel_rfl) (by kernel_rfl) (by kernel_rfl) (fun _ _ _ h => (h : False).elim) (Or.inl ⟨by kernel_rfl, ?_⟩) (by assumption) ?_; rotate_left; (intro w' hSw; (try dsimp only at hSw); go_simp; (first | done | with_reducible rfl)); simp only [Act.put, List.setIfInBounds_toArray, List.set_cons_zero, List.set_cons_succ]
            refine wpAnyH_take (i := 14) (v := ?_) rfl (by kernel_rfl) (by kernel_rfl) (by kernel_rfl) (fun _ _ _ h => (h : False).elim) (Or.inl ⟨by kernel_rfl, ?_⟩) (by assumption) ?_; rotate_left; (intro w' hSw; (try dsimp only at hSw); go_simp; (first | done | with_reducible rfl)); simp only [Act.put, List.setIfInBounds_toArray, List.set_cons_zero, List.set_cons_succ]
            refine wpAnyH_take (i := 15) (v := ?_) rfl (by kernel_rfl) (by kernel_rfl) (by kernel_rfl) (fun _ _ _ h => (h : False).elim) (Or.inl ⟨by kernel_rfl, ?_⟩) (by assumption) ?_; rotate_left; (intro w' hSw; (try dsimp only at hSw); go_simp; (first | done | with_reducible rfl)); simp only [Act.put, List.setIfInBounds_toArray, List.set_cons_zero, List.set_cons_succ]
            refine wpAnyH_take (i := 16) (v := ?_) rfl (by kernel_rfl) (by kernel_rfl) (by kernel_rfl) (fun _ _ _ h => (h : False).elim) (Or.inl ⟨by kernel_rfl, ?_⟩) (by assumption) ?_; rotate_left; (intro w' hSw; (try dsimp only at hSw); go_simp; (first | done | with_reducible rfl)); simp only [Act.put, List.setIfInBounds_toArray, List.set_cons_zero, List.set_cons_succ]
            refine wpAnyH_take (i := 17) (v := ?_) rfl (by kernel_rfl) (by kernel_rfl) (by kernel_rfl) (fun _ _ _ h => (h : False).elim) (Or.inl ⟨by kernel_rfl, ?_⟩) (by assumption) ?_; rotate_left; (intro w' hSw; (try dsimp only at hSw); go_simp; (first | done | with_reducible rfl)); simp only [Act.put, List.setIfInBounds_toArray, List.set_cons_zero, List.set_cons_succ]
            refine wpAnyH_take (i := 18) (v := ?_) rfl (by kernel_rfl) (by kernel_rfl) (by kernel_rfl) (fun _ _ _ h => (h : False).elim) (Or.inl ⟨by kernel_rfl, ?_⟩) (by assumption) ?_; rotate_left; (intro w' hSw; (try dsimp only at hSw); go_simp; (first | done | with_reducible rfl)); simp only [Act.put, List.setIfInBounds_toArray, List.set_cons_zero, List.set_cons_succ]
            refine wpAnyH_take (i := 19) (v := ?_) rfl (by kernel_rfl) (by kernel_rfl) (by kernel_rfl) (fun _ _ _ h => (h : False).elim) (Or.inl ⟨by kernel_rfl, ?_⟩) (by assumption) ?_; rotate_left; (intro w' hSw; (try dsimp only at hSw); go_simp; (first | done | with_reducible rfl)); simp only [Act.put, List.setIfInBounds_toArray, List.set_cons_zero, List.set_cons_succ]
            refine wpAnyH_take (i := 20) (v := ?_) rfl (by kernel_rfl) (by kernel_rfl) (by kernel_rfl) (fun _ _ _ h => (h : False).elim) (Or.inl ⟨by kernel_rfl, ?_⟩) (by assumption) ?_; rotate_left; (intro w' hSw; (try dsimp only at hSw); go_simp; (first | done | with_reducible rfl)); simp only [Act.put, List.setIfInBounds_toArray, List.set_cons_zero, List.set_cons_succ]
            refine wpAnyH_take (i := 21) (v := ?_) rfl (by kernel_rfl) (by kernel_rfl) (by kernel_rfl) (fun _ _ _ h => (h : False).elim) (Or.inl ⟨by kernel_rfl, ?_⟩) (by assumption) ?_; rotate_left; (intro w' hSw; (try dsimp only at hSw); go_simp; (first | done | with_reducible rfl)); simp only [Act.put, List.setIfInBounds_toArray, List.set_cons_zero, List.set_cons_succ]
            refine wpAnyH_take (i := 22) (v := ?_) rfl (by kernel_rfl) (by kernel_rfl) (by kernel_rfl) (fun _ _ _ h => (h : False).elim) (Or.inl ⟨by kernel_rfl, ?_⟩) (by assumption) ?_; rotate_left; (intro w' hSw; (try dsimp only at hSw); go_simp; (first | done | with_reducible rfl)); simp only [Act.put, List.setIfInBounds_toArray, List.set_cons_zero, List.set_cons_succ]
            refine wpAnyH_take (i := 23) (v := ?_) rfl (by kernel_rfl) (by kernel_rfl) (by kernel_rfl) (fun _ _ _ h => (h : False).elim) (Or.inl ⟨by kernel_rfl, ?_⟩) (by assumption) ?_; rotate_left; (intro w' hSw; (try dsimp only at hSw); go_simp; (first | done | with_reducible rfl)); simp only [Act.put, List.setIfInBounds_toArray, List.set_cons_zero, List.set_cons_succ]
            refine wpAnyH_take (i := 24) (v := ?_) rfl (by kernel_rfl) (by kernel_rfl) (by kernel_rfl) (fun _ _ _ h => (h : False).elim) (Or.inl ⟨by kernel_rfl, ?_⟩) (by assumption) ?_; rotate_left; (intro w' hSw; (try dsimp only at hSw); go_simp; (first | done | with_reducible rfl)); simp only [Act.put, List.setIfInBounds_toArray, List.set_cons_zero, List.set_cons_succ]
            refine wpAnyH_take (i := 25) (v := ?_) rfl (by kernel_rfl) (by kernel_rfl) (by kernel_rfl) (fun _ _ _ h => (h : False).elim) (Or.inl ⟨by kernel_rfl, ?_⟩) (by assumption) ?_; rotate_left; (intro w' hSw; (try dsimp only at hSw); go_simp; (first | done | with_reducible rfl)); simp only [Act.put, List.setIfInBounds_toArray, List.set_cons_zero, List.set_cons_succ]
            refine wpAnyH_ready (rs := [26]) (by kernel_rfl) (by simp) ?_
            refine AllReadyH.cons rfl (fun K hK => ?_) AllReadyH.nil
            go_simp
            refine (HCA1.out _).mono ?_
            rintro e V1 ⟨rfl, hv⟩
            refine hK.out _ _ (by first | exact keepB hS0 hv | exact keepA hS0 hv) (fun hS1 => ?_)
            clear hK hS0 hv
            try simp only [Act.put, List.setIfInBounds_toArray, List.set_cons_zero, List.set_cons_succ]
            refine wpAnyH_take (i := 27) (v := ?_) rfl (by kernel_rfl) (by kernel_rfl) (by kernel_rfl) (fun _ _ _ h => (h : False).elim) (Or.inl ⟨by kernel_rfl, ?_⟩) (by assumption) ?_; rotate_left; (intro w' hSw; (try dsimp only at hSw); go_simp; (first | done | with_reducible rfl)); simp only [Act.put, List.setIfInBounds_toArray, List.set_cons_zero, List.set_cons_succ]
            refine wpAnyH_take (i := 28) (v := ?_) rfl (by kernel_rfl) (by kernel_rfl) (by kernel_rfl) (fun _ _ _ h => (h : False).elim) (Or.inl ⟨by kernel_rfl, ?_⟩) (by assumption) ?_; rotate_left; (intro w' hSw; (try dsimp only at hSw); go_simp; (first | done | with_reducible rfl)); simp only [Act.put, List.setIfInBounds_toArray, List.set_cons_zero, List.set_cons_succ]
            refine wpAnyH_take (i := 29) (v := ?_) rfl (by kernel_rfl) (by kernel_rfl) (by kernel_rfl) (fun _ _ _ h => (h : False).elim) (Or.inl ⟨by kernel_rfl, ?_⟩) (by assumption) ?_; rotate_left; (intro w' hSw; (try dsimp only at hSw); go_simp; (first | done | with_reducible rfl)); simp only [Act.put, List.setIfInBounds_toArray, List.set_cons_zero, List.set_cons_succ]
            refine wpAnyH_take (i := 30) (v := undef) rfl (by kernel_rfl) (by kernel_rfl) (by kernel_rfl) (fun _ _ _ h => (h : False).elim) (Or.inr ⟨by kernel_rfl, rfl⟩) (by assumption) ?_; simp only [Act.put, List.setIfInBounds_toArray, List.set_cons_zero, List.set_cons_succ]
            refine wpAnyH_take (i := 31) (v := undef) rfl (by kernel_rfl) (by kernel_rfl) (by kernel_rfl) (fun _ _ _ h => (h : False).elim) (Or.inr ⟨by kernel_rfl, rfl⟩) (by assumption) ?_; simp only [Act.put, List.setIfInBounds_toArray, List.set_cons_zero, List.set_cons_succ]
            refine wpAnyH_take (i := 32) (v := undef) rfl (by kernel_rfl) (by kernel_rfl) (by kernel_rfl) (fun _ _ _ h => (h : False).elim) (Or.inr ⟨by kernel_rfl, rfl⟩) (by assumption) ?_; simp only [Act.put, List.setIfInBounds_toArray, List.set_cons_zero, List.set_cons_succ]
            refine wpAnyH_take (i := 33) (v := undef) rfl (by kernel_rfl) (by kernel_rfl) (by kernel_rfl) (fun _ _ _ h => (h : False).elim) (Or.inr ⟨by kernel_rfl, rfl⟩) (by assumption) ?_; simp only [Act.put, List.setIfInBounds_toArray, List.set_cons_zero, List.set_cons_succ]
            refine wpAnyH_take (i := 34) (v := undef) rfl (by kernel_rfl) (by kernel_rfl) (by kernel_rfl) (fun _ _ _ h => (h : False).elim) (Or.inr ⟨by kernel_rfl, rfl⟩) (by assumption) ?_; simp only [Act.put, List.setIfInBounds_toArray, List.set_cons_zero, List.set_cons_succ]
            refine wpAnyH_take (i := 35) (v := undef) rfl (by kernel_rfl) (by kernel_rfl) (by kernel_rfl) (fun _ _ _ h => (h : False).elim) (Or.inr ⟨by kernel_rfl, rfl⟩) (by assumption) ?_; simp only [Act.put, List.setIfInBounds_toArray, List.set_cons_zero, List.set_cons_succ]
            refine wpAnyH_take (i := 36) (v := undef) rfl (by kernel_rfl) (by kernel_rfl) (by kernel_rfl) (fun _ _ _ h => (h : False).elim) (Or.inr ⟨by kernel_rfl, rfl⟩) (by assumption) ?_; simp only [Act.put, List.setIfInBounds_toArray, List.set_cons_zero, List.set_cons_succ]
            refine wpAnyH_take (i := 37) (v := ?_) rfl (by kernel_rfl) (by kernel_rfl) (by kernel_rfl) (fun _ _ _ h => (h : False).elim) (Or.inl ⟨by kernel_rfl, ?_⟩) (by assumption) ?_; rotate_left; (intro w' hSw; (try dsimp only at hSw); go_simp; (first | done | with_reducible rfl)); simp only [Act.put, List.setIfInBounds_toArray, List.set_cons_zero, List.set_cons_succ]
            refine wpAnyH_ready (rs := [38]) (by kernel_rfl) (by simp) ?_
            refine AllReadyH.cons rfl (fun K hK => ?_) AllReadyH.nil
            go_simp
            refine hK.out _ _ (by assumption) (fun hS3 => ?_)
            clear hK
            try simp only [Act.put, List.setIfInBounds_toArray, List.set_cons_zero, List.set_cons_succ]
            refine wpAnyH_done (by kernel_rfl) ?_ _
            refine NoPanic.normal ?_
            have hbW : Below W5.heap.size W5 V1 := by first | exact hS3.2.2.2.2.2.2.2.2 | exact hS3.2.2.2.2.2.2.2
            have BV := Lib.hid (B5.out.trans (hbW.mono B5.out.size))
            clear x0 x1 x2 x3 x4 x5 x6 hS3 hbW
            rw [if_neg (by decide)] at hch
            have hG := HG.out
            rw [HS.out, hch, if_neg (by decide)] at hG
            have hres := HI.out 1 hG.symm
            have BVW := Lib.hid (BW.out.trans (BV.out.mono BW.out.size))
            have hrr := blk_below HRB.out BVW.out
            have z0 : V1.cell? ⟨gr, 0, none⟩ = some (.int .i64 0) := (blk_cell hrr 0).trans rfl
            have z1 : V1.cell? ⟨gr, 1, none⟩ = some (.slice none 0 0) := (blk_cell hrr 1).trans rfl
            have f0 := blk_frozen hrr 0
            have f1 := blk_frozen hrr 1
            have R9 := Lib.hid hrr
            obtain ⟨hr1, hr2⟩ := Prod.mk.inj hres
            subst hr1 hr2
            clear hG hres hrr hch
            go_wp2
            have hgr : w.heap.size ≤ gr := Nat.le_of_eq HGR.out.symm
            refine bodyPost_ret (results_cell_row rfl _ _ gr 26 #[.int .i64 1, .slice none 0 0] (0, 0) _ rfl (blk_set (blk_set R9.out 0 (.int .i64 1)) 1 (.slice none 0 0)) Tryd.underlying26 rfl (by kernel_rfl)) rfl ?_
            exact ⟨_, rfl, Kd.R_nil _ _ _ _ _, below_set (below_set (HB1.out.trans (BVW.out.mono HB1.out.size)) hgr) hgr⟩
          | true =>
            have hEG := isOf_eg
            refine wp_region_noPanic ?_
            first
              | refine wp_region_held_drew (S := fun w' => w'.cell? ⟨gd, 0, none⟩ = some (.string d.f0) ∧ w'.cell? ⟨gd, 1, none⟩ = some (.string d.f1.f0) ∧ w'.cell? ⟨gd, 2, none⟩ = some (.int .i64 d.f1.f1) ∧ w'.cell? ⟨gd, 3, none⟩ = some (.string d.f1.f2) ∧ w'.cell? ⟨gd, 4, none⟩ = some (.string d.f2.f0) ∧ w'.cell? ⟨gd, 5, none⟩ = some (.int .i64 d.f2.f1) ∧ w'.cell? ⟨gd, 6, none⟩ = some (.string d.f2.f2) ∧ w'.cell? (ad.add (m * 7)) = some (.string y.f0) ∧ Below W5.heap.size W5 w') (by kernel_rfl) ⟨x0, x1, x2, x3, x4, x5, x6, r0, below_drew1 (Below.refl _ _)⟩ ?_
              | refine wp_region_held_drew (S := fun w' => w'.cell? ⟨gd, 0, none⟩ = some (.string d.f0) ∧ w'.cell? ⟨gd, 1, none⟩ = some (.string d.f1.f0) ∧ w'.cell? ⟨gd, 2, none⟩ = some (.int .i64 d.f1.f1) ∧ w'.cell? ⟨gd, 3, none⟩ = some (.string d.f1.f2) ∧ w'.cell? ⟨gd, 4, none⟩ = some (.string d.f2.f0) ∧ w'.cell? ⟨gd, 5, none⟩ = some (.int .i64 d.f2.f1) ∧ w'.cell? ⟨gd, 6, none⟩ = some (.string d.f2.f2) ∧ Below W5.heap.size W5 w') (by kernel_rfl) ⟨x0, x1, x2, x3, x4, x5, x6, below_drew1 (Below.refl _ _)⟩ ?_
            intro hS0
            generalize hLL : Array.replicate _ false = lst
            obtain rfl : lst = #[false, false, false, false, false, false, false, false, false, false, false, false, false, false, false, false, false, false, false, false, false, false, false, false, false, false, false, false, false, false, false, false, false, false, false, false, false, false, false] := hLL.symm.trans (by kernel_rfl)
            clear hLL
            refine wpAnyH_take (i := 0) (v := ?_) rfl (by kernel_rfl) (by kernel_rfl) (by kernel_rfl) (fun _ _ _ h => (h : False).elim) (Or.inl ⟨by kernel_rfl, ?_⟩) (by assumption) ?_; rotate_left; (intro w' hSw; (try dsimp only at hSw); go_simp; (first | done | with_reducible rfl)); simp only [Act.put, List.setIfInBounds_toArray, List.set_cons_zero, List.set_cons_succ]
            refine wpAnyH_take (i := 1) (v := ?_) rfl (by kernel_rfl) (by kernel_rfl) (by kernel_rfl) (fun _ _ _ h => (h : False).elim) (Or.inl ⟨by kernel_rfl, ?_⟩) (by assumption) ?_; rotate_left; (intro w' hSw; (try dsimp only at hSw); go_simp; (first | done | with_reducible rfl)); simp only [Act.put, List.setIfInBounds_toArray, List.set_cons_zero, List.set_cons_succ]
            refine wpAnyH_take (i := 2) (v := ?_) rfl (by kernel_rfl) (by kernel_rfl) (by kernel_rfl) (fun _ _ _ h => (h : False).elim) (Or.inl ⟨by kernel_rfl, ?_⟩) (by assumption) ?_; rotate_left; (intro w' hSw; (try dsimp only at hSw); go_simp; (first | done | with_reducible rfl)); simp only [Act.put, List.setIfInBounds_toArray, List.set_cons_zero, List.set_cons_succ]
            first | (have hq_ := hwi; clear hq_; (refine wpAnyH_take (i := 3) (v := ?_) rfl (by kernel_rfl) (by kernel_rfl) (by kernel_rfl) (fun _ _ _ h => (h : False).elim) (Or.inl ⟨by kernel_rfl, ?_⟩) (by assumption) ?_; rotate_left; (intro w' hSw; (try dsimp only at hSw); go_simp; (first | done | with_reducible rfl)); simp only [Act.put, List.setIfInBounds_toArray, List.set_cons_zero, List.set_cons_succ])) | (refine wpAnyH_take (i := 3) (v := undef) rfl (by kernel_rfl) (by kernel_rfl) (by kernel_rfl) (fun _ _ _ h => (h : False).elim) (Or.inr ⟨by kernel_rfl, rfl⟩) (by assumption) ?_; simp only [Act.put, List.setIfInBounds_toArray, List.set_cons_zero, List.set_cons_succ])
            first | (have hq_ := hwi; clear hq_; (refine wpAnyH_take (i := 4) (v := ?_) rfl (by kernel_rfl) (by kernel_rfl) (by kernel_rfl) (fun _ _ _ h => (h : False).elim) (Or.inl ⟨by kernel_rfl, ?_⟩) (by assumption) ?_; rotate_left; (intro w' hSw; (try dsimp only at hSw); go_simp; (first | done | with_reducible rfl)); simp only [Act.put, List.setIfInBounds_toArray, List.set_cons_zero, List.set_cons_succ])) | (refine wpAnyH_take (i := 4) (v := undef) rfl (by kernel_rfl) (by kernel_rfl) (by kernel_rfl) (fun _ _ _ h => (h : False).elim) (Or.inr ⟨by kernel_rfl, rfl⟩) (by assumption) ?_; simp only [Act.put, List.setIfInBounds_toArray, List.set_cons_zero, List.set_cons_succ])
            first | (have hq_ := hwi; clear hq_; (refine wpAnyH_take (i := 5) (v := ?_) rfl (by kernel_rfl) (by kernel_rfl) (by kernel_rfl) (fun _ _ _ h => (h : False).elim) (Or.inl ⟨by kernel_rfl, ?_⟩) (by assumption) ?_; rotate_left; (intro w' hSw; (try dsimp only at hSw); go_simp; (first | done | with_reducible rfl)); simp only [Act.put, List.setIfInBounds_toArray, List.set_cons_zero, List.set_cons_succ])) | (refine wpAnyH_take (i := 5) (v := undef) rfl (by kernel_rfl) (by kernel_rfl) (by kernel_rfl) (fun _ _ _ h => (h : False).elim) (Or.inr ⟨by kernel_rfl, rfl⟩) (by assumption) ?_; simp only [Act.put, List.setIfInBounds_toArray, List.set_cons_zero, List.set_cons_succ])
            first | (have hq_ := hwi; clear hq_; (refine wpAnyH_take (i := 6) (v := ?_) rfl (by kernel_rfl) (by kernel_rfl) (by kernel_rfl) (fun _ _ _ h => (h : False).elim) (Or.inl ⟨by kernel_rfl, ?_⟩) (by assumption) ?_; rotate_left; (intro w' hSw; (try dsimp only at hSw); go_simp; (first | done | with_reducible rfl)); simp only [Act.put, List.setIfInBounds_toArray, List.set_cons_zero, List.set_cons_succ])) | (refine wpAnyH_take (i := 6) (v := undef) rfl (by kernel_rfl) (by kernel_rfl) (by kernel_rfl) (fun _ _ _ h => (h : False).elim) (Or.inr ⟨by kernel_rfl, rfl⟩) (by assumption) ?_; simp only [Act.put, List.setIfInBounds_toArray, List.set_cons_zero, List.set_cons_succ])
            first | (have hq_ := hwi; clear hq_; (refine wpAnyH_take (i := 7) (v := ?_) rfl (by kernel_rfl) (by kernel_rfl) (by kernel_rfl) (fun _ _ _ h => (h : False).elim) (Or.inl ⟨by kernel_rfl, ?_⟩) (by assumption) ?_; rotate_left; (intro w' hSw; (try dsimp only at hSw); go_simp; (first | done | with_reducible rfl)); simp only [Act.put, List.setIfInBounds_toArray, List.set_cons_zero, List.set_cons_succ])) | (refine wpAnyH_take (i := 7) (v := undef) rfl (by kernel_rfl) (by kernel_rfl) (by kernel_rfl) (fun _ _ _ h => (h : False).elim) (Or.inr ⟨by kernel_rfl, rfl⟩) (by assumption) ?_; simp only [Act.put, List.setIfInBounds_toArray, List.set_cons_zero, List.set_cons_succ])
            first | (have hq_ := hwi; clear hq_; (refine wpAnyH_take (i := 8) (v := ?_) rfl (by kernel_rfl) (by kernel_rfl) (by kernel_rfl) (fun _ _ _ h => (h : False).elim) (Or.inl ⟨by kernel_rfl, ?_⟩) (by assumption) ?_; rotate_left; (intro w' hSw; (try dsimp only at hSw); go_simp; (first | done | with_reducible rfl)); simp only [Act.put, List.setIfInBounds_toArray, List.set_cons_zero, List.set_cons_succ])) | (refine wpAnyH_take (i := 8) (v := undef) rfl (by kernel_rfl) (by kernel_rfl) (by kernel_rfl) (fun _ _ _ h => (h : False).elim) (Or.inr ⟨by kernel_rfl, rfl⟩) (by assumption) ?_; simp only [Act.put, List.setIfInBounds_toArray, List.set_cons_zero, List.set_cons_succ])
            first | (have hq_ := hwi; clear hq_; (refine wpAnyH_take (i := 9) (v := ?_) rfl (by kernel_rfl) (by kernel_rfl) (by kernel_rfl) (fun _ _ _ h => (h : False).elim) (Or.inl ⟨by kernel_rfl, ?_⟩) (by assumption) ?_; rotate_left; (intro w' hSw; (try dsimp only at hSw); go_simp; (first | done | with_reducible rfl)); simp only [Act.put, List.setIfInBounds_toArray, List.set_cons_zero, List.set_cons_succ])) | (refine wpAnyH_take (i := 9) (v := undef) rfl (by kernel_rfl) (by kernel_rfl) (by kernel_rfl) (fun _ _ _ h => (h : False).elim) (Or.inr ⟨by kernel_rfl, rfl⟩) (by assumption) ?_; simp only [Act.put, List.setIfInBounds_toArray, List.set_cons_zero, List.set_cons_succ])
            first | (have hq_ := hwi; clear hq_; (refine wpAnyH_take (i := 10) (v := ?_) rfl (by kernel_rfl) (by kernel_rfl) (by kernel_rfl) (fun _ _ _ h => (h : False).elim) (Or.inl ⟨by kernel_rfl, ?_⟩) (by assumption) ?_; rotate_left; (intro w' hSw; (try dsimp only at hSw); go_simp; (first | done | with_reducible rfl)); simp only [Act.put, List.setIfInBounds_toArray, List.set_cons_zero, List.set_cons_succ])) | (refine wpAnyH_take (i := 10) (v := undef) rfl (by kernel_rfl) (by kernel_rfl) (by kernel_rfl) (fun _ _ _ h => (h : False).elim) (Or.inr ⟨by kernel_rfl, rfl⟩) (by assumption) ?_; simp only [Act.put, List.setIfInBounds_toArray, List.set_cons_zero, List.set_cons_succ])
            first | (have hq_ := hwi; clear hq_; (refine wpAnyH_take (i := 11) (v := ?_) rfl (by kernel_rfl) (by kernel_rfl) (by kernel_rfl) (fun _ _ _ h => (h : False).elim) (Or.inl ⟨by kernel_rfl, ?_⟩) (by assumption) ?_; rotate_left; (intro w' hSw; (try dsimp only at hSw); go_simp; (first | done | with_reducible rfl)); simp only [Act.put, List.setIfInBounds_toArray, List.set_cons_zero, List.set_cons_succ])) | (refine wpAnyH_take (i := 11) (v := undef) rfl (by kernel_rfl) (by kernel_rfl) (by kernel_rfl) (fun _ _ _ h => (h : False).elim) (Or.inr ⟨by kernel_rfl, rfl⟩) (by assumption) ?_; simp only [Act.put, List.setIfInBounds_toArray, List.set_cons_zero, List.set_cons_succ])
            refine wpAnyH_take (i := 12) (v := ?_) rfl (by kernel_rfl) (by kernel_rfl) (by kernel_rfl) (fun _ _ _ h => (h : False).elim) (Or.inl ⟨by kernel_rfl, ?_⟩) (by assumption) ?_; rotate_left; (intro w' hSw; (try dsimp only at hSw); go_simp; (first | done | with_reducible rfl)); simp only [Act.put, List.setIfInBounds_toArray, List.set_cons_zero, List.set_cons_succ]
            refine wpAnyH_take (i := 13) (v := ?_) rfl (by kernel_rfl) (by kernel_rfl) (by kernel_rfl) (fun _ _ _ h => (h : False).elim) (Or.inl ⟨by kernel_rfl, ?_⟩) (by assumption) ?_; rotate_left; (intro w' hSw; (try dsimp only at hSw); go_simp; (first | done | with_reducible rfl)); simp only [Act.put, List.setIfInBounds_toArray, List.set_cons_zero, List.set_cons_succ]
            refine wpAnyH_take (i := 14) (v := ?_) rfl (by kernel_rfl) (by kernel_rfl) (by kernel_rfl) (fun _ _ _ h => (h : False).elim) (Or.inl ⟨by kernel_rfl, ?_⟩) (by assumption) ?_; rotate_left; (intro w' hSw; (try dsimp only at hSw); go_simp; (first | done | with_reducible rfl)); simp only [Act.put, List.setIfInBounds_toArray, List.set_cons_zero, List.set_cons_succ]
            refine wpAnyH_take (i := 15) (v := ?_) rfl (by kernel_rfl) (by kernel_rfl) (by kernel_rfl) (fun _ _ _ h => (h : False).elim) (Or.inl ⟨by kernel_rfl, ?_⟩) (by assumption) ?_; rotate_left; (intro w' hSw; (try dsimp only at hSw); go_simp; (first | done | with_reducible rfl)); simp only [Act.put, List.setIfInBounds_toArray, List.set_cons_zero, List.set_cons_succ]
            refine wpAnyH_take (i := 16) (v := ?_) rfl (by kernel_rfl) (by kernel_rfl) (by kernel_rfl) (fun _ _ _ h => (h : False).elim) (Or.inl ⟨by kernel_rfl, ?_⟩) (by assumption) ?_; rotate_left; (intro w' hSw; (try dsimp only at hSw); go_simp; (first | done | with_reducible rfl)); simp only [Act.put, List.setIfInBounds_toArray, List.set_cons_zero, List.set_cons_succ]
            refine wpAnyH_take (i := 17) (v := ?_) rfl (by kernel_rfl) (by kernel_rfl) (by kernel_rfl) (fun _ _ _ h => (h : False).elim) (Or.inl ⟨by kernel_rfl, ?_⟩) (by assumption) ?_; rotate_left; (intro w' hSw; (try dsimp only at hSw); go_simp; (first | done | with_reducible rfl)); simp only [Act.put, List.setIfInBounds_toArray, List.set_cons_zero, List.set_cons_succ]
            refine wpAnyH_take (i := 18) (v := ?_) rfl (by kernel_rfl) (by kernel_rfl) (by kernel_rfl) (fun _ _ _ h => (h : False).elim) (Or.inl ⟨by kernel_rfl, ?_⟩) (by assumption) ?_; rotate_left; (intro w' hSw; (try dsimp only at hSw); go_simp; (first | done | with_reducible rfl)); simp only [Act.put, List.setIfInBounds_toArray, List.set_cons_zero, List.set_cons_succ]
            refine wpAnyH_take (i := 19) (v := ?_) rfl (by kernel_rfl) (by kernel_rfl) (by kernel_rfl) (fun _ _ _ h => (h : False).elim) (Or.inl ⟨by kernel_rfl, ?_⟩) (by assumption) ?_; rotate_left; (intro w' hSw; (try dsimp only at hSw); go_simp; (first | done | with_reducible rfl)); simp only [Act.put, List.setIfInBounds_toArray, List.set_cons_zero, List.set_cons_succ]
            refine wpAnyH_take (i := 20) (v := ?_) rfl (by kernel_rfl) (by kernel_rfl) (by kernel_rfl) (fun _ _ _ h => (h : False).elim) (Or.inl ⟨by kernel_rfl, ?_⟩) (by assumption) ?_; rotate_left; (intro w' hSw; (try dsimp only at hSw); go_simp; (first | done | with_reducible rfl)); simp only [Act.put, List.setIfInBounds_toArray, List.set_cons_zero, List.set_cons_succ]
            refine wpAnyH_take (i := 21) (v := ?_) rfl (by kernel_rfl) (by kernel_rfl) (by kernel_rfl) (fun _ _ _ h => (h : False).elim) (Or.inl ⟨by kernel_rfl, ?_⟩) (by assumption) ?_; rotate_left; (intro w' hSw; (try dsimp only at hSw); go_simp; (first | done | with_reducible rfl)); simp only [Act.put, List.setIfInBounds_toArray, List.set_cons_zero, List.set_cons_succ]
            refine wpAnyH_take (i := 22) (v := ?_) rfl (by kernel_rfl) (by kernel_rfl) (by kernel_rfl) (fun _ _ _ h => (h : False).elim) (Or.inl ⟨by kernel_rfl, ?_⟩) (by assumption) ?_; rotate_left; (intro w' hSw; (try dsimp only at hSw); go_simp; (first | done | with_reducible rfl)); simp only [Act.put, List.setIfInBounds_toArray, List.set_cons_zero, List.set_cons_succ]
            refine wpAnyH_take (i := 23) (v := ?_) rfl (by kernel_rfl) (by kernel_rfl) (by kernel_rfl) (fun _ _ _ h => (h : False).elim) (Or.inl ⟨by kernel_rfl, ?_⟩) (by assumption) ?_; rotate_left; (intro w' hSw; (try dsimp only at hSw); go_simp; (first | done | with_reducible rfl)); simp only [Act.put, List.setIfInBounds_toArray, List.set_cons_zero, List.set_cons_succ]
            refine wpAnyH_take (i := 24) (v := ?_) rfl (by kernel_rfl) (by kernel_rfl) (by kernel_rfl) (fun _ _ _ h => (h : False).elim) (Or.inl ⟨by kernel_rfl, ?_⟩) (by assumption) ?_; rotate_left; (intro w' hSw; (try dsimp only at hSw); go_simp; (first | done | with_reducible rfl)); simp only [Act.put, List.setIfInBounds_toArray, List.set_cons_zero, List.set_cons_succ]
            refine wpAnyH_take (i := 25) (v := ?_) rfl (by kernel_rfl) (by kernel_rfl) (by kernel_rfl) (fun _ _ _ h => (h : False).elim) (Or.inl ⟨by kernel_rfl, ?_⟩) (by assumption) ?_; rotate_left; (intro w' hSw; (try dsimp only at hSw); go_simp; (first | done | with_reducible rfl)); simp only [Act.put, List.setIfInBounds_toArray, List.set_cons_zero, List.set_cons_succ]
            refine wpAnyH_ready (rs := [26]) (by kernel_rfl) (by simp) ?_
            refine AllReadyH.cons rfl (fun K hK => ?_) AllReadyH.nil
            go_simp
            refine (HCA1.out _).mono ?_
            rintro e V1 ⟨rfl, hv⟩
            refine hK.out _ _ (by first | exact keepB hS0 hv | exact keepA hS0 hv) (fun hS1 => ?_)
            clear hK hS0 hv
            try simp only [Act.put, List.setIfInBounds_toArray, List.set_cons_zero, List.set_cons_succ]
            refine wpAnyH_take (i := 27) (v := ?_) rfl (by kernel_rfl) (by kernel_rfl) (by kernel_rfl) (fun _ _ _ h => (h : False).elim) (Or.inl ⟨by kernel_rfl, ?_⟩) (by assumption) ?_; rotate_left; (intro w' hSw; (try dsimp only at hSw); go_simp; (first | done | with_reducible rfl)); simp only [Act.put, List.setIfInBounds_toArray, List.set_cons_zero, List.set_cons_succ]
            refine wpAnyH_take (i := 28) (v := ?_) rfl (by kernel_rfl) (by kernel_rfl) (by kernel_rfl) (fun _ _ _ h => (h : False).elim) (Or.inl ⟨by kernel_rfl, ?_⟩) (by assumption) ?_; rotate_left; (intro w' hSw; (try dsimp only at hSw); go_simp; (first | done | with_reducible rfl)); simp only [Act.put, List.setIfInBounds_toArray, List.set_cons_zero, List.set_cons_succ]
            refine wpAnyH_take (i := 29) (v := ?_) rfl (by kernel_rfl) (by kernel_rfl) (by kernel_rfl) (fun _ _ _ h => (h : False).elim) (Or.inl ⟨by kernel_rfl, ?_⟩) (by assumption) ?_; rotate_left; (intro w' hSw; (try dsimp only at hSw); go_simp; (first | done | with_reducible rfl)); simp only [Act.put, List.setIfInBounds_toArray, List.set_cons_zero, List.set_cons_succ]
            refine wpAnyH_take (i := 30) (v := ?_) rfl (by kernel_rfl) (by kernel_rfl) (by kernel_rfl) (fun _ _ _ h => (h : False).elim) (Or.inl ⟨by kernel_rfl, ?_⟩) (by assumption) ?_; rotate_left; (intro w' hSw; (try dsimp only at hSw); go_simp; (first | done | with_reducible rfl)); simp only [Act.put, List.setIfInBounds_toArray, List.set_cons_zero, List.set_cons_succ]
            refine wpAnyH_take (i := 31) (v := ?_) rfl (by kernel_rfl) (by kernel_rfl) (by kernel_rfl) (fun _ _ _ h => (h : False).elim) (Or.inl ⟨by kernel_rfl, ?_⟩) (by assumption) ?_; rotate_left; (intro w' hSw; (try dsimp only at hSw); go_simp; (first | done | with_reducible rfl)); simp only [Act.put, List.setIfInBounds_toArray, List.set_cons_zero, List.set_cons_succ]
            refine wpAnyH_take (i := 32) (v := ?_) rfl (by kernel_rfl) (by kernel_rfl) (by kernel_rfl) (fun _ _ _ h => (h : False).elim) (Or.inl ⟨by kernel_rfl, ?_⟩) (by assumption) ?_; rotate_left; (intro w' hSw; (try dsimp only at hSw); go_simp; (first | done | with_reducible rfl)); simp only [Act.put, List.setIfInBounds_toArray, List.set_cons_zero, List.set_cons_succ]
            refine wpAnyH_take (i := 33) (v := ?_) rfl (by kernel_rfl) (by kernel_rfl) (by kernel_rfl) (fun _ _ _ h => (h : False).elim) (Or.inl ⟨by kernel_rfl, ?_⟩) (by assumption) ?_; rotate_left; (intro w' hSw; (try dsimp only at hSw); go_simp; (first | done | with_reducible rfl)); simp only [Act.put, List.setIfInBounds_toArray, List.set_cons_zero, List.set_cons_succ]
            refine wpAnyH_take (i := 34) (v := ?_) rfl (by kernel_rfl) (by kernel_rfl) (by kernel_rfl) (fun _ _ _ h => (h : False).elim) (Or.inl ⟨by kernel_rfl, ?_⟩) (by assumption) ?_; rotate_left; (intro w' hSw; (try dsimp only at hSw); go_simp; (first | done | with_reducible rfl)); simp only [Act.put, List.setIfInBounds_toArray, List.set_cons_zero, List.set_cons_succ]
            refine wpAnyH_ready (rs := [35]) (by kernel_rfl) (by simp) ?_
            refine AllReadyH.cons rfl (fun K hK => ?_) AllReadyH.nil
            go_simp
            refine (HCA2.out _).mono ?_
            rintro e V2 ⟨rfl, hv⟩
            refine hK.out _ _ (by first | exact keepB hS1 hv | exact keepA hS1 hv) (fun hS2 => ?_)
            clear hK hS1 hv
            try simp only [Act.put, List.setIfInBounds_toArray, List.set_cons_zero, List.set_cons_succ]
            refine wpAnyH_take (i := 36) (v := ?_) rfl (by kernel_rfl) (by kernel_rfl) (by kernel_rfl) (fun _ _ _ h => (h : False).elim) (Or.inl ⟨by kernel_rfl, ?_⟩) (by assumption) ?_; rotate_left; (intro w' hSw; (try dsimp only at hSw); go_simp; (first | done | with_reducible rfl)); simp only [Act.put, List.setIfInBounds_toArray, List.set_cons_zero, List.set_cons_succ]
            refine wpAnyH_take (i := 37) (v := ?_) rfl (by kernel_rfl) (by kernel_rfl) (by kernel_rfl) (fun _ _ _ h => (h : False).elim) (Or.inl ⟨by kernel_rfl, ?_⟩) (by assumption) ?_; rotate_left; (intro w' hSw; (try dsimp only at hSw); go_simp; (first | done | with_reducible rfl)); simp only [Act.put, List.setIfInBounds_toArray, List.set_cons_zero, List.set_cons_succ]
            refine wpAnyH_ready (rs := [38]) (by kernel_rfl) (by simp) ?_
            refine AllReadyH.cons rfl (fun K hK => ?_) AllReadyH.nil
            go_simp
            refine hK.out _ _ (by assumption) (fun hS3 => ?_)
            clear hK
            try simp only [Act.put, List.setIfInBounds_toArray, List.set_cons_zero, List.set_cons_succ]
            refine wpAnyH_done (by kernel_rfl) ?_ _
            refine NoPanic.normal ?_
            obtain ⟨s0, s1, s2, s3, s4, s5, s6, hbW⟩ : V2.cell? ⟨gd, 0, none⟩ = some (.string d.f0) ∧ V2.cell? ⟨gd, 1, none⟩ = some (.string d.f1.f0) ∧ V2.cell? ⟨gd, 2, none⟩ = some (.int .i64 d.f1.f1) ∧ V2.cell? ⟨gd, 3, none⟩ = some (.string d.f1.f2) ∧ V2.cell? ⟨gd, 4, none⟩ = some (.string d.f2.f0) ∧ V2.cell? ⟨gd, 5, none⟩ = some (.int .i64 d.f2.f1) ∧ V2.cell? ⟨gd, 6, none⟩ = some (.string d.f2.f2) ∧ Below W5.heap.size W5 V2 := by first | exact ⟨hS3.1, hS3.2.1, hS3.2.2.1, hS3.2.2.2.1, hS3.2.2.2.2.1, hS3.2.2.2.2.2.1, hS3.2.2.2.2.2.2.1, hS3.2.2.2.2.2.2.2.2⟩ | exact ⟨hS3.1, hS3.2.1, hS3.2.2.1, hS3.2.2.2.1, hS3.2.2.2.2.1, hS3.2.2.2.2.2.1, hS3.2.2.2.2.2.2.1, hS3.2.2.2.2.2.2.2⟩
            have BV := Lib.hid (B5.out.trans (hbW.mono B5.out.size))
            clear x0 x1 x2 x3 x4 x5 x6 hS3 hbW
            cases b2 with
            | false =>
              clear s0 s1 s2 s3 s4 s5 s6
              rw [if_pos rfl, if_neg (by decide)] at hch
              have hG := HG.out
              rw [HS.out, hch, if_neg (by decide)] at hG
              have hres := HI.out 1 hG.symm
              have BVW := Lib.hid (BW.out.trans (BV.out.mono BW.out.size))
              have hrr := blk_below HRB.out BVW.out
              have z0 : V2.cell? ⟨gr, 0, none⟩ = some (.int .i64 0) := (blk_cell hrr 0).trans rfl
              have z1 : V2.cell? ⟨gr, 1, none⟩ = some (.slice none 0 0) := (blk_cell hrr 1).trans rfl
              have f0 := blk_frozen hrr 0
              have f1 := blk_frozen hrr 1
              have R9 := Lib.hid hrr
              obtain ⟨hr1, hr2⟩ := Prod.mk.inj hres
              subst hr1 hr2
              clear hG hres hrr hch
              go_wp2
              have hgr : w.heap.size ≤ gr := Nat.le_of_eq HGR.out.symm
              refine bodyPost_ret (results_cell_row rfl _ _ gr 26 #[.int .i64 1, .slice none 0 0] (0, 0) _ rfl (blk_set (blk_set R9.out 0 (.int .i64 1)) 1 (.slice none 0 0)) Tryd.underlying26 rfl (by kernel_rfl)) rfl ?_
              exact ⟨_, rfl, Kd.R_nil _ _ _ _ _, below_set (below_set (HB1.out.trans (BVW.out.mono HB1.out.size)) hgr) hgr⟩
            | true =>
              obtain ⟨x, hx⟩ : ∃ x, findF l0 d.f0 = x := ⟨_, rfl⟩
              obtain ⟨e3, he3⟩ : ∃ b, eqF x d.f1 = b := ⟨_, rfl⟩
              rw [if_pos rfl, if_pos rfl, hx, he3] at hch
              have hEQ3 : ∀ (q : Nat) (W : World), (Op.equalIn (q + 2) 106 (.agg #[.string x.f0, .int .i64 x.f1, .string x.f2]) (.agg #[.string d.f1.f0, .int .i64 d.f1.f1, .string d.f1.f2])).run Tryd.prog W = .ok e3 W := fun q W => (eqA106 q W _ _ _ _ _ _).trans (by rw [← he3]; rfl)
              have HFA : Hid (∀ V, Below V2.heap.size V2 V → Calls Tryd.prog 84 #[.slice A0 l0.length c0, .string d.f0] V fun e w' => e = .returned (.agg #[.string x.f0, .int .i64 x.f1, .string x.f2]) ∧ Below V.heap.size V w') := Lib.hid (fun V h => by
                rw [← hx]
                exact fileAt_calls A0 c0 l0 d.f0 V (Kd.C_below H0.out (HB1.out.trans ((BW.out.trans ((BV.out.trans (h.mono BV.out.size)).mono BW.out.size)).mono HB1.out.size))) (by omega))
              have HCHH := Lib.hid hch
              clear hx he3 hch
              go_wp2
              refine wp_region_noPanic ?_
              refine wp_region_held_drew (S := fun w' => w'.cell? ⟨gd, 0, none⟩ = some (.string d.f0) ∧ w'.cell? ⟨gd, 1, none⟩ = some (.string d.f1.f0) ∧ w'.cell? ⟨gd, 2, none⟩ = some (.int .i64 d.f1.f1) ∧ w'.cell? ⟨gd, 3, none⟩ = some (.string d.f1.f2) ∧ w'.cell? ⟨gd, 4, none⟩ = some (.string d.f2.f0) ∧ w'.cell? ⟨gd, 5, none⟩ = some (.int .i64 d.f2.f1) ∧ w'.cell? ⟨gd, 6, none⟩ = some (.string d.f2.f2) ∧ Below V2.heap.size V2 w') (by kernel_rfl) ⟨s0, s1, s2, s3, s4, s5, s6, below_drew1 (Below.refl _ _)⟩ ?_
              intro hS0
              generalize hLL : Array.replicate _ false = lst
              obtain rfl : lst = #[false, false, false, false, false, false, false, false] := hLL.symm.trans (by kernel_rfl)
              clear hLL
              refine wpAnyH_take (i := 0) (v := ?_) rfl (by kernel_rfl) (by kernel_rfl) (by kernel_rfl) (fun _ _ _ h => (h : False).elim) (Or.inl ⟨by kernel_rfl, ?_⟩) (by assumption) ?_; rotate_left; (intro w' hSw; (try dsimp only at hSw); go_simp; (first | done | with_reducible rfl)); simp only [Act.put, List.setIfInBounds_toArray, List.set_cons_zero, List.set_cons_succ]
              refine wpAnyH_take (i := 1) (v := ?_) rfl (by kernel_rfl) (by kernel_rfl) (by kernel_rfl) (fun _ _ _ h => (h : False).elim) (Or.inl ⟨by kernel_rfl, ?_⟩) (by assumption) ?_; rotate_left; (intro w' hSw; (try dsimp only at hSw); go_simp; (first | done | with_reducible rfl)); simp only [Act.put, List.setIfInBounds_toArray, List.set_cons_zero, List.set_cons_succ]
              refine wpAnyH_take (i := 2) (v := ?_) rfl (by kernel_rfl) (by kernel_rfl) (by kernel_rfl) (fun _ _ _ h => (h : False).elim) (Or.inl ⟨by kernel_rfl, ?_⟩) (by assumption) ?_; rotate_left; (intro w' hSw; (try dsimp only at hSw); go_simp; (first | done | with_reducible rfl)); simp only [Act.put, List.setIfInBounds_toArray, List.set_cons_zero, List.set_cons_succ]
              refine wpAnyH_take (i := 4) (v := ?_) rfl (by kernel_rfl) (by kernel_rfl) (by kernel_rfl) (fun _ _ _ h => (h : False).elim) (Or.inl ⟨by kernel_rfl, ?_⟩) (by assumption) ?_; rotate_left; (intro w' hSw; (try dsimp only at hSw); go_simp; (first | done | with_reducible rfl)); simp only [Act.put, List.setIfInBounds_toArray, List.set_cons_zero, List.set_cons_succ]
              refine wpAnyH_take (i := 5) (v := ?_) rfl (by kernel_rfl) (by kernel_rfl) (by kernel_rfl) (fun _ _ _ h => (h : False).elim) (Or.inl ⟨by kernel_rfl, ?_⟩) (by assumption) ?_; rotate_left; (intro w' hSw; (try dsimp only at hSw); go_simp; (first | done | with_reducible rfl)); simp only [Act.put, List.setIfInBounds_toArray, List.set_cons_zero, List.set_cons_succ]
              refine wpAnyH_ready (rs := [3]) (by kernel_rfl) (by simp) ?_
              refine AllReadyH.cons rfl (fun K hK => ?_) AllReadyH.nil
              go_simp
              refine (HFA.out _ (below_drew1 (Below.refl _ _))).mono ?_
              rintro e V3 ⟨rfl, hv⟩
              refine hK.out _ _ (keepA hS0 hv) (fun hS1 => ?_)
              clear hK hS0 hv
              try simp only [Act.put, List.setIfInBounds_toArray, List.set_cons_zero, List.set_cons_succ]
              refine wpAnyH_take (i := 6) (v := ?_) rfl (by kernel_rfl) (by kernel_rfl) (by kernel_rfl) (fun _ _ _ h => (h : False).elim) (Or.inl ⟨by kernel_rfl, ?_⟩) (by assumption) ?_; rotate_left; (intro w' hSw; (try dsimp only at hSw); go_simp; (first | done | with_reducible rfl)); simp only [Act.put, List.setIfInBounds_toArray, List.set_cons_zero, List.set_cons_succ]
              refine wpAnyH_ready (rs := [7]) (by kernel_rfl) (by simp) ?_
              refine AllReadyH.cons rfl (fun K hK => ?_) AllReadyH.nil
              go_simp
              refine hK.out _ _ (by assumption) (fun hS3 => ?_)
              clear hK hS1
              try simp only [Act.put, List.setIfInBounds_toArray, List.set_cons_zero, List.set_cons_succ]
              refine wpAnyH_done (by kernel_rfl) ?_ _
              refine NoPanic.normal ?_
              obtain ⟨u0, u1, u2, u3, u4, u5, u6, hbV⟩ := hS3
              have BV3 := Lib.hid (BV.out.trans (hbV.mono BV.out.size))
              clear s0 s1 s2 s3 s4 s5 s6 BV hbV
              have BV := BV3
              clear BV3
              have hch := HCHH.out
              cases e3 with
              | false =>
                clear u0 u1 u2 u3 u4 u5 u6
                rw [if_neg (by decide)] at hch
                have hG := HG.out
                rw [HS.out, hch, if_neg (by decide)] at hG
                have hres := HI.out 6 hG.symm
                have BVW := Lib.hid (BW.out.trans (BV.out.mono BW.out.size))
                have hrr := blk_below HRB.out BVW.out
                have z0 : V3.cell? ⟨gr, 0, none⟩ = some (.int .i64 0) := (blk_cell hrr 0).trans rfl
                have z1 : V3.cell? ⟨gr, 1, none⟩ = some (.slice none 0 0) := (blk_cell hrr 1).trans rfl
                have f0 := blk_frozen hrr 0
                have f1 := blk_frozen hrr 1
                have R9 := Lib.hid hrr
                obtain ⟨hr1, hr2⟩ := Prod.mk.inj hres
                subst hr1 hr2
                clear hG hres hrr hch
                go_wp2
                have hgr : w.heap.size ≤ gr := Nat.le_of_eq HGR.out.symm
                refine bodyPost_ret (results_cell_row rfl _ _ gr 26 #[.int .i64 6, .slice none 0 0] (0, 0) _ rfl (blk_set (blk_set R9.out 0 (.int .i64 6)) 1 (.slice none 0 0)) Tryd.underlying26 rfl (by kernel_rfl)) rfl ?_
                exact ⟨_, rfl, Kd.R_nil _ _ _ _ _, below_set (below_set (HB1.out.trans (BVW.out.mono HB1.out.size)) hgr) hgr⟩
              | true =>
                rw [if_pos rfl] at hch
                have hG := HG.out
                rw [HS.out, hch, if_pos rfl] at hG
                have HGG := Lib.hid hG
                have BVW := Lib.hid (BW.out.trans (BV.out.mono BW.out.size))
                have OV := Lib.hid (Kd.R_below OR.out BV.out)
                have hLen : L.length ≤ 1048576 := by have := HL.out; omega
                have hLn2 := withV_len2 L d.f0 d.f2
                have HL2 := Lib.hid (show (withV L d.f0 d.f2).length ≤ l0.length + (i + 1) by have := HL.out; omega)
                clear hG hch hLn2
                go_wp2_with (go_at_call 85; (with_reducible refine (with_calls A c L d.f0 d.f2 V3 (Kd.R_reads' OV.out).2.2 hLen).mono ?_); rintro e V4 ⟨v4, rfl, ho4, hb4⟩; obtain ⟨A4, c4, rfl⟩ := Kd.R_slice ho4; have O4 := Lib.hid ho4; have B4 := Lib.hid hb4; clear ho4 hb4)
                go_roundg (ds.length - (i + 1))
                case measure => omega
                case rel => exact ⟨i + 1, withV L d.f0 d.f2, A4, c4, rfl, by go_num, by omega, by omega, Kd.R_lower O4.out BVW.out.size, BVW.out.trans (B4.out.mono BVW.out.size), HL2.out, HGG.out⟩)
    · have hie : i = ds.length := by omega
      subst hie
      have hG := HG.out
      rw [goI_end] at hG
      have HRF := Lib.hid (HR.out L hG.symm)
      clear hG
      go_wp2_with (go_at_call 57; (with_reducible refine (impl_rightFiles.calls k (fun _ => True) (.slice A L.length c) L r1 r2 w1 wr BW.out OR.out HRF.out).mono ?_); rintro e W ⟨v1, rfl, ho, hb, hk⟩; obtain ⟨A9, c9, rfl⟩ := Kd.R_slice ho; have hrr := blk_below HRB.out hb; have z0 : W.cell? ⟨gr, 0, none⟩ = some (.int .i64 0) := (blk_cell hrr 0).trans rfl; have z1 : W.cell? ⟨gr, 1, none⟩ = some (.slice none 0 0) := (blk_cell hrr 1).trans rfl; have f0 := blk_frozen hrr 0; have f1 := blk_frozen hrr 1; have R9 := Lib.hid hrr; have O9 := Lib.hid ho; have B9 := Lib.hid hb; clear hrr ho hb hk)
      have hgr : w.heap.size ≤ gr := Nat.le_of_eq HGR.out.symm
      have hlt1 : gr < w1.heap.size := (Array.getElem?_eq_some_iff.1 HRB.out).1
      refine bodyPost_ret (results_cell_row rfl _ _ gr 26 #[.int .i64 r1, .slice A9 r2.length c9] (0, 0) _ rfl (blk_set (blk_set R9.out 0 (.int .i64 r1)) 1 (.slice A9 r2.length c9)) Tryd.underlying26 rfl (by kernel_rfl)) rfl ?_
      exact ⟨_, rfl, Kd.R_lower (R_awayF (R_awayF (Kd.R_mono O9.out (fun _ _ => trivial)) hlt1 _) hlt1 _) HB1.out.size, below_set (below_set (HB1.out.trans (B9.out.mono HB1.out.size)) hgr) hgr⟩
end Go.Proofs.YtjibadlbiapcmaaDoor.PX.X

namespace Go.Proofs.YtjibadlbiapcmaaDoor.PX
open Go.RowKit Go.Proofs.YtjibadlbiapcmaaDoorW.PrintWords Go.Proofs.YtjibadlbiapcmaaDoorW.PrintLast Go.Proofs.YtjibadlbiapcmaaDoorW.PrintMore
attribute [local go_sem] max2_int min2_int max_two min_two max_three min_three max_four min_four   -- for this text's walks alone
set_option linter.unusedVariables false
set_option linter.unusedSimpArgs false

/-! ### impl_ApplyDeltas: function 35 -/
def impl_ApplyDeltas.f (k : Nat) (l0 : List X.FileT) (l1 : List X.DeltaT) : Option (Int × List X.FileT) :=
 if l0.length + l1.length ≤ 1048576 then ((impl_FilesFault.f k l0).bind fun c => if c = 0 then (match X.goI l0 none l1 l0 with | .inl q => some (q, []) | .inr L => impl_rightFiles.f k L) else some (c, [])) else none
theorem impl_ApplyDeltas.mono : ∀ a0 a1 k, LeO (impl_ApplyDeltas.f k a0 a1) (impl_ApplyDeltas.f (k + 1) a0 a1) := by
 intro a0 a1 k
 unfold impl_ApplyDeltas.f
 refine LeO.ite (LeO.bind (impl_FilesFault.mono _ _) (fun c => LeO.ite ?_ (LeO.refl _))) (LeO.none _)
 cases X.goI a0 none a1 a0 with
 | inl q => exact LeO.refl _
 | inr L => exact impl_rightFiles.mono _ _
theorem impl_ApplyDeltas.calls (k : Nat) (A0 : Option Addr) (c0 : Nat) (l0 : List X.FileT) (A1 : Option Addr) (c1 : Nat) (l1 : List X.DeltaT) (r1 : Int) (r2 : List X.FileT) (w : World) (hr0 : Kd.C k106 w A0 l0.length l0) (hc0 : l0.length ≤ c0) (hr1 : Kd.C k108 w A1 l1.length l1) (hc1 : l1.length ≤ c1) (h : impl_ApplyDeltas.f k l0 l1 = some (r1, r2)) :
  Calls Tryd.prog 35 #[.slice A0 l0.length c0, .slice A1 l1.length c1] w fun e w' => ∃ v1_ : Value, e = .returned (.agg #[.int .i64 r1, v1_]) ∧ Kd.R k106 106 w' w.heap.size (fun _ => True) v1_ r2 ∧ Below w.heap.size w w' := by
 unfold impl_ApplyDeltas.f at h
 by_cases hb : l0.length + l1.length ≤ 1048576
 ·
  rw [if_pos hb] at h
  obtain ⟨c, hF, h⟩ := Option.bind_eq_some_iff.mp h
  by_cases hc : c = 0
  ·
   rw [if_pos hc] at h
   refine X.appI_calls k A0 c0 l0 A1 c1 l1 w hr0 hc0 hr1 hc1 hb c hF hc r1 r2 (fun L hL => ?_) (fun q hq => ?_)
   ·
    rw [hL] at h
    exact h
   ·
    rw [hq] at h
    exact Option.some.inj h
  ·
   rw [if_neg hc] at h
   obtain ⟨rfl, rfl⟩ := Prod.mk.inj (Option.some.inj h)
   exact X.appI_fault k A0 c0 l0 A1 c1 l1 w hr0 hc0 c hF hc
 ·
  rw [if_neg hb] at h
  cases h

end Go.Proofs.YtjibadlbiapcmaaDoor.PX
