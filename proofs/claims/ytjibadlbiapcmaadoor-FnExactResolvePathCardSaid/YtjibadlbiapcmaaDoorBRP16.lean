/- Texts of this claim set one behind another by wip/bundle.py: XBsE. -/
import Derived.Test.YtjibadlbiapcmaaDoorBRP15
import Derived.Test.YtjibadlbiapcmaaDoorBRP10
import Derived.Shelf.SlicesQ.Load
import Derived.Lib.Hide
import Derived.Test.YtjibadlbiapcmaaDoorBRP7
import Derived.Deep.RegionHeld3
import Derived.BigQuiet
namespace Go.Proofs.YtjibadlbiapcmaaDoor.PX.X
open Go Go.RowKit Go.Lib Go.Proofs.YtjibadlbiapcmaaDoorW.PrintWords
set_option linter.unusedVariables false
set_option linter.unusedSimpArgs false
theorem cellK {w w' : World} {p : Addr} {v : Value} (h : w.cell? p = some v) (hb : Below w.heap.size w w') : w'.cell? p = some v := (hb.cell (World.block_lt_of_cell? w p h)).trans h
set_option maxHeartbeats 4000000 in
theorem bsrE (cf : EntT → Int) (t : EntT) (g : Nat) (eg : ∀ args w, (callFunc g args).run Tryd.prog w = .ok (.enter g args) w) (zs : List EntT) (A0 : Option Addr) (c : Nat) (w : World)
    (hp : ∀ (W : World) (x : EntT), x ∈ zs → Below w.heap.size w W → Calls Tryd.prog g (#[.agg #[.string x.f0, .int .i64 x.f1, .int .i64 x.f2, .string x.f3], .agg #[.string t.f0, .int .i64 t.f1, .int .i64 t.f2, .string t.f3]] ++ #[]) W fun e w' => e = .returned (.int .i64 (cf x)) ∧ Below W.heap.size W w')
    (hr : Kd.C k80 w A0 zs.length zs) (hbig : zs.length ≤ 1048576) :
    Calls Tryd.prog 143 #[.slice A0 zs.length c, .agg #[.string t.f0, .int .i64 t.f1, .int .i64 t.f2, .string t.f3], .func (.func g) #[] #[]] w fun e w' => e = .returned (.tuple #[.int .i64 (bsAt cf zs : Nat), .bool (bsHit cf zs)]) ∧ Below w.heap.size w w' := by
  have HR := Lib.hid hr
  have HP := Lib.hid hp
  have hn0 : zs.length = zs.length := rfl
  generalize hnn : zs.length = n at hbig ⊢
  have HN := Lib.hid hnn
  clear hr hp hnn hn0
  obtain ⟨r, hr⟩ : ∃ r, bsAt cf zs = r := ⟨_, rfl⟩
  obtain ⟨hit, hh⟩ : ∃ q, bsHit cf zs = q := ⟨_, rfl⟩
  have RR := Lib.hid hr
  have HH := Lib.hid hh
  rw [hr, hh]
  clear hr hh
  go_enter Tryd.func143, Tryd.ntmps143
  go_wp2_with ((with_reducible refine gate_dst (N := 4) rfl ?_); refine box_event ?hg (N := 4) ?hd (cs := #[.string t.f0, .int .i64 t.f1, .int .i64 t.f2, .string t.f3]) (t := 80) ?hr ?_; (case hd => rfl); (case hg => rfl); (case hr => first | (go_simp; done) | (go_simp; rfl)); intro gb hgb w1 hbox hb1; have HX := Lib.hid hbox; have HB1 := Lib.hid hb1; have HGB := Lib.hid hgb; clear hbox hb1 hgb)
  go_loopg [9, 10, 11] n (fun gg s9 s10 _ wr => ∃ lo hi : Nat, s9 = .int .i64 lo ∧ s10 = .int .i64 hi ∧ lo ≤ hi ∧ hi ≤ n ∧ hi - lo ≤ gg ∧ Aside (Below w.heap.size w wr) ∧ Aside (wr.heap[gb]? = some (.cells #[.string t.f0, .int .i64 t.f1, .int .i64 t.f2, .string t.f3] 80 (0, 0))) ∧ Aside (∃ f, hi - lo ≤ f ∧ bsF (bsLt cf zs) f lo hi = r))
  case atStart => exact ⟨0, n, rfl, rfl, Nat.zero_le _, Nat.le_refl _, by omega, HB1.out, (show Aside _ from HX.out), (show Aside _ from ⟨n, by omega, by have h1 := RR.out; unfold bsAt at h1; rw [HN.out] at h1; exact h1⟩)⟩
  case round =>
    obtain ⟨lo, hi, rfl, rfl, hlh, hin, hg, BW, BX, AF⟩ := hrel
    by_cases hlt : lo < hi
    · have hq : (lo + hi) / 2 < n := by omega
      have hqz : (((lo + hi) / 2 : Nat) : Int) < (n : Int) := by omega
      have hq0 : (0 : Int) ≤ ((lo : Int) + (hi : Int)) / 2 := by omega
      have hq3 : ((lo : Int) + (hi : Int)) / 2 < (n : Int) := by omega
      have hTN : (((lo : Int) + (hi : Int)) / 2).toNat = (lo + hi) / 2 := by omega
      have hxs : zs[(lo + hi) / 2]? = some (zs[(lo + hi) / 2]'(by rw [HN.out]; exact hq)) := List.getElem?_eq_getElem _
      have hmem := List.mem_of_getElem? hxs
      generalize zs[(lo + hi) / 2]'(by rw [HN.out]; exact hq) = y at hxs hmem
      have b0 : wr.cell? ⟨gb, 0, none⟩ = some (.string t.f0) := (blk_cell BX.out 0).trans rfl
      have b1 : wr.cell? ⟨gb, 1, none⟩ = some (.int .i64 t.f1) := (blk_cell BX.out 1).trans rfl
      have b2 : wr.cell? ⟨gb, 2, none⟩ = some (.int .i64 t.f2) := (blk_cell BX.out 2).trans rfl
      have b3 : wr.cell? ⟨gb, 3, none⟩ = some (.string t.f3) := (blk_cell BX.out 3).trans rfl
      obtain ⟨ad, rfl, hcl⟩ := C_cells flatE (Kd.C_below HR.out BW.out) ((lo + hi) / 2) y hxs
      have l2 : Sem.run Tryd.prog (loadCellsFrom (ad.add ((lo + hi) / 2 * 4)) 0 4 #[]) wr = .ok #[.string y.f0, .int .i64 y.f1, .int .i64 y.f2, .string y.f3] wr := run_loadCellsFrom_list _ _ _ (encE y) 4 rfl hcl
      have q0 : wr.cell? (ad.add ((lo + hi) / 2 * 4)) = some (.string y.f0) := hcl 0 _ rfl
      have q1 : wr.cell? ⟨(ad.add ((lo + hi) / 2 * 4)).block, (ad.add ((lo + hi) / 2 * 4)).off + 1, none⟩ = some (.int .i64 y.f1) := hcl 1 _ rfl
      have q2 : wr.cell? ⟨(ad.add ((lo + hi) / 2 * 4)).block, (ad.add ((lo + hi) / 2 * 4)).off + 2, none⟩ = some (.int .i64 y.f2) := hcl 2 _ rfl
      have q3 : wr.cell? ⟨(ad.add ((lo + hi) / 2 * 4)).block, (ad.add ((lo + hi) / 2 * 4)).off + 3, none⟩ = some (.string y.f3) := hcl 3 _ rfl
      have hcall := HP.out wr.drew y hmem BW.out.drew
      have XS := Lib.hid hxs
      clear hmem hcl hxs
      generalize hcy : cf y = q at hcall
      have CY := Lib.hid hcy
      clear hcy
      by_cases hyx : q < 0
      · go_wp2
        have hK : wr.drew.cell? (ad.add ((lo + hi) / 2 * 4)) = some (.string y.f0) ∧ wr.drew.cell? ⟨(ad.add ((lo + hi) / 2 * 4)).block, (ad.add ((lo + hi) / 2 * 4)).off + 1, none⟩ = some (.int .i64 y.f1) ∧ wr.drew.cell? ⟨(ad.add ((lo + hi) / 2 * 4)).block, (ad.add ((lo + hi) / 2 * 4)).off + 2, none⟩ = some (.int .i64 y.f2) ∧ wr.drew.cell? ⟨(ad.add ((lo + hi) / 2 * 4)).block, (ad.add ((lo + hi) / 2 * 4)).off + 3, none⟩ = some (.string y.f3) ∧ wr.drew.cell? ⟨gb, 0, none⟩ = some (.string t.f0) ∧ wr.drew.cell? ⟨gb, 1, none⟩ = some (.int .i64 t.f1) ∧ wr.drew.cell? ⟨gb, 2, none⟩ = some (.int .i64 t.f2) ∧ wr.drew.cell? ⟨gb, 3, none⟩ = some (.string t.f3) ∧ Below wr.heap.size wr wr.drew := ⟨q0, q1, q2, q3, b0, b1, b2, b3, below_drew1 (Below.refl _ _)⟩
        go_region_held3 (fun w' => w'.cell? (ad.add ((lo + hi) / 2 * 4)) = some (.string y.f0) ∧ w'.cell? ⟨(ad.add ((lo + hi) / 2 * 4)).block, (ad.add ((lo + hi) / 2 * 4)).off + 1, none⟩ = some (.int .i64 y.f1) ∧ w'.cell? ⟨(ad.add ((lo + hi) / 2 * 4)).block, (ad.add ((lo + hi) / 2 * 4)).off + 2, none⟩ = some (.int .i64 y.f2) ∧ w'.cell? ⟨(ad.add ((lo + hi) / 2 * 4)).block, (ad.add ((lo + hi) / 2 * 4)).off + 3, none⟩ = some (.string y.f3) ∧ w'.cell? ⟨gb, 0, none⟩ = some (.string t.f0) ∧ w'.cell? ⟨gb, 1, none⟩ = some (.int .i64 t.f1) ∧ w'.cell? ⟨gb, 2, none⟩ = some (.int .i64 t.f2) ∧ w'.cell? ⟨gb, 3, none⟩ = some (.string t.f3) ∧ Below wr.heap.size wr w') (with_reducible first | assumption) ((go_at_fn g; refine hcall.mono ?_; rintro e w' ⟨rfl, hb0⟩; have hb' : Below wr.drew.heap.size wr.drew w' := hb0; have hK1 : w'.cell? (ad.add ((lo + hi) / 2 * 4)) = some (.string y.f0) ∧ w'.cell? ⟨(ad.add ((lo + hi) / 2 * 4)).block, (ad.add ((lo + hi) / 2 * 4)).off + 1, none⟩ = some (.int .i64 y.f1) ∧ w'.cell? ⟨(ad.add ((lo + hi) / 2 * 4)).block, (ad.add ((lo + hi) / 2 * 4)).off + 2, none⟩ = some (.int .i64 y.f2) ∧ w'.cell? ⟨(ad.add ((lo + hi) / 2 * 4)).block, (ad.add ((lo + hi) / 2 * 4)).off + 3, none⟩ = some (.string y.f3) ∧ w'.cell? ⟨gb, 0, none⟩ = some (.string t.f0) ∧ w'.cell? ⟨gb, 1, none⟩ = some (.int .i64 t.f1) ∧ w'.cell? ⟨gb, 2, none⟩ = some (.int .i64 t.f2) ∧ w'.cell? ⟨gb, 3, none⟩ = some (.string t.f3) ∧ Below wr.heap.size wr w' := ⟨cellK hK.1 hb', cellK hK.2.1 hb', cellK hK.2.2.1 hb', cellK hK.2.2.2.1 hb', cellK hK.2.2.2.2.1 hb', cellK hK.2.2.2.2.2.1 hb', cellK hK.2.2.2.2.2.2.1 hb', cellK hK.2.2.2.2.2.2.2.1 hb', hK.2.2.2.2.2.2.2.2.trans (hb'.mono hK.2.2.2.2.2.2.2.2.size)⟩))
        go_wp2
        go_roundg (hi - ((lo + hi) / 2 + 1))
        case measure => omega
        case rel =>
          refine ⟨(lo + hi) / 2 + 1, hi, by rw [show ((lo : Int) + (hi : Int)) / 2 + 1 = (((lo + hi) / 2 + 1 : Nat) : Int) by omega], rfl, by omega, hin, Nat.le_refl _, BW.out.trans (hK1.2.2.2.2.2.2.2.2.mono BW.out.size), (show Aside _ from blk_below BX.out hK1.2.2.2.2.2.2.2.2), (show Aside _ from ?_)⟩
          obtain ⟨f, hf, he⟩ := AF.out
          obtain ⟨f, rfl⟩ : ∃ m, f = m + 1 := ⟨f - 1, by omega⟩
          rw [bsF_up _ f lo hi hlt (by rw [bsLt_at cf zs _ y XS.out, CY.out]; exact decide_eq_true hyx)] at he
          exact ⟨f, by omega, he⟩
      · go_wp2
        have hK : wr.drew.cell? (ad.add ((lo + hi) / 2 * 4)) = some (.string y.f0) ∧ wr.drew.cell? ⟨(ad.add ((lo + hi) / 2 * 4)).block, (ad.add ((lo + hi) / 2 * 4)).off + 1, none⟩ = some (.int .i64 y.f1) ∧ wr.drew.cell? ⟨(ad.add ((lo + hi) / 2 * 4)).block, (ad.add ((lo + hi) / 2 * 4)).off + 2, none⟩ = some (.int .i64 y.f2) ∧ wr.drew.cell? ⟨(ad.add ((lo + hi) / 2 * 4)).block, (ad.add ((lo + hi) / 2 * 4)).off + 3, none⟩ = some (.string y.f3) ∧ wr.drew.cell? ⟨gb, 0, none⟩ = some (.string t.f0) ∧ wr.drew.cell? ⟨gb, 1, none⟩ = some (.int .i64 t.f1) ∧ wr.drew.cell? ⟨gb, 2, none⟩ = some (.int .i64 t.f2) ∧ wr.drew.cell? ⟨gb, 3, none⟩ = some (.string t.f3) ∧ Below wr.heap.size wr wr.drew := ⟨q0, q1, q2, q3, b0, b1, b2, b3, below_drew1 (Below.refl _ _)⟩
        go_region_held3 (fun w' => w'.cell? (ad.add ((lo + hi) / 2 * 4)) = some (.string y.f0) ∧ w'.cell? ⟨(ad.add ((lo + hi) / 2 * 4)).block, (ad.add ((lo + hi) / 2 * 4)).off + 1, none⟩ = some (.int .i64 y.f1) ∧ w'.cell? ⟨(ad.add ((lo + hi) / 2 * 4)).block, (ad.add ((lo + hi) / 2 * 4)).off + 2, none⟩ = some (.int .i64 y.f2) ∧ w'.cell? ⟨(ad.add ((lo + hi) / 2 * 4)).block, (ad.add ((lo + hi) / 2 * 4)).off + 3, none⟩ = some (.string y.f3) ∧ w'.cell? ⟨gb, 0, none⟩ = some (.string t.f0) ∧ w'.cell? ⟨gb, 1, none⟩ = some (.int .i64 t.f1) ∧ w'.cell? ⟨gb, 2, none⟩ = some (.int .i64 t.f2) ∧ w'.cell? ⟨gb, 3, none⟩ = some (.string t.f3) ∧ Below wr.heap.size wr w') (with_reducible first | assumption) ((go_at_fn g; refine hcall.mono ?_; rintro e w' ⟨rfl, hb0⟩; have hb' : Below wr.drew.heap.size wr.drew w' := hb0; have hK1 : w'.cell? (ad.add ((lo + hi) / 2 * 4)) = some (.string y.f0) ∧ w'.cell? ⟨(ad.add ((lo + hi) / 2 * 4)).block, (ad.add ((lo + hi) / 2 * 4)).off + 1, none⟩ = some (.int .i64 y.f1) ∧ w'.cell? ⟨(ad.add ((lo + hi) / 2 * 4)).block, (ad.add ((lo + hi) / 2 * 4)).off + 2, none⟩ = some (.int .i64 y.f2) ∧ w'.cell? ⟨(ad.add ((lo + hi) / 2 * 4)).block, (ad.add ((lo + hi) / 2 * 4)).off + 3, none⟩ = some (.string y.f3) ∧ w'.cell? ⟨gb, 0, none⟩ = some (.string t.f0) ∧ w'.cell? ⟨gb, 1, none⟩ = some (.int .i64 t.f1) ∧ w'.cell? ⟨gb, 2, none⟩ = some (.int .i64 t.f2) ∧ w'.cell? ⟨gb, 3, none⟩ = some (.string t.f3) ∧ Below wr.heap.size wr w' := ⟨cellK hK.1 hb', cellK hK.2.1 hb', cellK hK.2.2.1 hb', cellK hK.2.2.2.1 hb', cellK hK.2.2.2.2.1 hb', cellK hK.2.2.2.2.2.1 hb', cellK hK.2.2.2.2.2.2.1 hb', cellK hK.2.2.2.2.2.2.2.1 hb', hK.2.2.2.2.2.2.2.2.trans (hb'.mono hK.2.2.2.2.2.2.2.2.size)⟩))
        go_wp2
        go_roundg ((lo + hi) / 2 - lo)
        case measure => omega
        case rel =>
          refine ⟨lo, (lo + hi) / 2, rfl, by rw [show ((lo : Int) + (hi : Int)) / 2 = (((lo + hi) / 2 : Nat) : Int) by omega], by omega, by omega, Nat.le_refl _, BW.out.trans (hK1.2.2.2.2.2.2.2.2.mono BW.out.size), (show Aside _ from blk_below BX.out hK1.2.2.2.2.2.2.2.2), (show Aside _ from ?_)⟩
          obtain ⟨f, hf, he⟩ := AF.out
          obtain ⟨f, rfl⟩ : ∃ m, f = m + 1 := ⟨f - 1, by omega⟩
          rw [bsF_down _ f lo hi hlt (by rw [bsLt_at cf zs _ y XS.out, CY.out]; exact decide_eq_false (by omega))] at he
          exact ⟨f, by omega, he⟩
    · obtain rfl : hi = lo := by omega
      have hrr : hi = r := by
        obtain ⟨f, hf, he⟩ := AF.out
        rw [bsF_end _ f hi hi (Nat.lt_irrefl _)] at he
        exact he
      subst hrr
      clear AF hlt
      by_cases hn : hi < n
      · have hnz : (hi : Int) < (n : Int) := by omega
        have hxs : zs[hi]? = some (zs[hi]'(by rw [HN.out]; exact hn)) := List.getElem?_eq_getElem _
        have hmem := List.mem_of_getElem? hxs
        generalize zs[hi]'(by rw [HN.out]; exact hn) = y at hxs hmem
        have b0 : wr.cell? ⟨gb, 0, none⟩ = some (.string t.f0) := (blk_cell BX.out 0).trans rfl
        have b1 : wr.cell? ⟨gb, 1, none⟩ = some (.int .i64 t.f1) := (blk_cell BX.out 1).trans rfl
        have b2 : wr.cell? ⟨gb, 2, none⟩ = some (.int .i64 t.f2) := (blk_cell BX.out 2).trans rfl
        have b3 : wr.cell? ⟨gb, 3, none⟩ = some (.string t.f3) := (blk_cell BX.out 3).trans rfl
        obtain ⟨ad, rfl, hcl⟩ := C_cells flatE (Kd.C_below HR.out BW.out) hi y hxs
        have l2 : Sem.run Tryd.prog (loadCellsFrom (ad.add (hi * 4)) 0 4 #[]) wr = .ok #[.string y.f0, .int .i64 y.f1, .int .i64 y.f2, .string y.f3] wr := run_loadCellsFrom_list _ _ _ (encE y) 4 rfl hcl
        have q0 : wr.cell? (ad.add (hi * 4)) = some (.string y.f0) := hcl 0 _ rfl
        have q1 : wr.cell? ⟨(ad.add (hi * 4)).block, (ad.add (hi * 4)).off + 1, none⟩ = some (.int .i64 y.f1) := hcl 1 _ rfl
        have q2 : wr.cell? ⟨(ad.add (hi * 4)).block, (ad.add (hi * 4)).off + 2, none⟩ = some (.int .i64 y.f2) := hcl 2 _ rfl
        have q3 : wr.cell? ⟨(ad.add (hi * 4)).block, (ad.add (hi * 4)).off + 3, none⟩ = some (.string y.f3) := hcl 3 _ rfl
        have hcall := HP.out wr.drew y hmem BW.out.drew
        have hhit : hit = decide (cf y = 0) := by rw [← HH.out]; exact bsHit_at cf zs y (by rw [RR.out]; exact hxs)
        clear hmem hcl hxs
        generalize cf y = q at hcall hhit
        have HQ := Lib.hid hhit
        clear hhit
        by_cases hyx : q = 0
        · subst hyx
          go_wp2
          have hK : wr.drew.cell? (ad.add (hi * 4)) = some (.string y.f0) ∧ wr.drew.cell? ⟨(ad.add (hi * 4)).block, (ad.add (hi * 4)).off + 1, none⟩ = some (.int .i64 y.f1) ∧ wr.drew.cell? ⟨(ad.add (hi * 4)).block, (ad.add (hi * 4)).off + 2, none⟩ = some (.int .i64 y.f2) ∧ wr.drew.cell? ⟨(ad.add (hi * 4)).block, (ad.add (hi * 4)).off + 3, none⟩ = some (.string y.f3) ∧ wr.drew.cell? ⟨gb, 0, none⟩ = some (.string t.f0) ∧ wr.drew.cell? ⟨gb, 1, none⟩ = some (.int .i64 t.f1) ∧ wr.drew.cell? ⟨gb, 2, none⟩ = some (.int .i64 t.f2) ∧ wr.drew.cell? ⟨gb, 3, none⟩ = some (.string t.f3) ∧ Below wr.heap.size wr wr.drew := ⟨q0, q1, q2, q3, b0, b1, b2, b3, below_drew1 (Below.refl _ _)⟩
          go_region_held3 (fun w' => w'.cell? (ad.add (hi * 4)) = some (.string y.f0) ∧ w'.cell? ⟨(ad.add (hi * 4)).block, (ad.add (hi * 4)).off + 1, none⟩ = some (.int .i64 y.f1) ∧ w'.cell? ⟨(ad.add (hi * 4)).block, (ad.add (hi * 4)).off + 2, none⟩ = some (.int .i64 y.f2) ∧ w'.cell? ⟨(ad.add (hi * 4)).block, (ad.add (hi * 4)).off + 3, none⟩ = some (.string y.f3) ∧ w'.cell? ⟨gb, 0, none⟩ = some (.string t.f0) ∧ w'.cell? ⟨gb, 1, none⟩ = some (.int .i64 t.f1) ∧ w'.cell? ⟨gb, 2, none⟩ = some (.int .i64 t.f2) ∧ w'.cell? ⟨gb, 3, none⟩ = some (.string t.f3) ∧ Below wr.heap.size wr w') (with_reducible first | assumption) ((go_at_fn g; refine hcall.mono ?_; rintro e w' ⟨rfl, hb0⟩; have hb' : Below wr.drew.heap.size wr.drew w' := hb0; have hK1 : w'.cell? (ad.add (hi * 4)) = some (.string y.f0) ∧ w'.cell? ⟨(ad.add (hi * 4)).block, (ad.add (hi * 4)).off + 1, none⟩ = some (.int .i64 y.f1) ∧ w'.cell? ⟨(ad.add (hi * 4)).block, (ad.add (hi * 4)).off + 2, none⟩ = some (.int .i64 y.f2) ∧ w'.cell? ⟨(ad.add (hi * 4)).block, (ad.add (hi * 4)).off + 3, none⟩ = some (.string y.f3) ∧ w'.cell? ⟨gb, 0, none⟩ = some (.string t.f0) ∧ w'.cell? ⟨gb, 1, none⟩ = some (.int .i64 t.f1) ∧ w'.cell? ⟨gb, 2, none⟩ = some (.int .i64 t.f2) ∧ w'.cell? ⟨gb, 3, none⟩ = some (.string t.f3) ∧ Below wr.heap.size wr w' := ⟨cellK hK.1 hb', cellK hK.2.1 hb', cellK hK.2.2.1 hb', cellK hK.2.2.2.1 hb', cellK hK.2.2.2.2.1 hb', cellK hK.2.2.2.2.2.1 hb', cellK hK.2.2.2.2.2.2.1 hb', cellK hK.2.2.2.2.2.2.2.1 hb', hK.2.2.2.2.2.2.2.2.trans (hb'.mono hK.2.2.2.2.2.2.2.2.size)⟩))
          go_wp2
          go_ret2
          exact ⟨by rw [HQ.out]; simp, BW.out.trans (hK1.2.2.2.2.2.2.2.2.mono BW.out.size)⟩
        · have hq2 : (q == 0) = false := beq_eq_false_iff_ne.2 hyx
          go_wp2
          have hK : wr.drew.cell? (ad.add (hi * 4)) = some (.string y.f0) ∧ wr.drew.cell? ⟨(ad.add (hi * 4)).block, (ad.add (hi * 4)).off + 1, none⟩ = some (.int .i64 y.f1) ∧ wr.drew.cell? ⟨(ad.add (hi * 4)).block, (ad.add (hi * 4)).off + 2, none⟩ = some (.int .i64 y.f2) ∧ wr.drew.cell? ⟨(ad.add (hi * 4)).block, (ad.add (hi * 4)).off + 3, none⟩ = some (.string y.f3) ∧ wr.drew.cell? ⟨gb, 0, none⟩ = some (.string t.f0) ∧ wr.drew.cell? ⟨gb, 1, none⟩ = some (.int .i64 t.f1) ∧ wr.drew.cell? ⟨gb, 2, none⟩ = some (.int .i64 t.f2) ∧ wr.drew.cell? ⟨gb, 3, none⟩ = some (.string t.f3) ∧ Below wr.heap.size wr wr.drew := ⟨q0, q1, q2, q3, b0, b1, b2, b3, below_drew1 (Below.refl _ _)⟩
          go_region_held3 (fun w' => w'.cell? (ad.add (hi * 4)) = some (.string y.f0) ∧ w'.cell? ⟨(ad.add (hi * 4)).block, (ad.add (hi * 4)).off + 1, none⟩ = some (.int .i64 y.f1) ∧ w'.cell? ⟨(ad.add (hi * 4)).block, (ad.add (hi * 4)).off + 2, none⟩ = some (.int .i64 y.f2) ∧ w'.cell? ⟨(ad.add (hi * 4)).block, (ad.add (hi * 4)).off + 3, none⟩ = some (.string y.f3) ∧ w'.cell? ⟨gb, 0, none⟩ = some (.string t.f0) ∧ w'.cell? ⟨gb, 1, none⟩ = some (.int .i64 t.f1) ∧ w'.cell? ⟨gb, 2, none⟩ = some (.int .i64 t.f2) ∧ w'.cell? ⟨gb, 3, none⟩ = some (.string t.f3) ∧ Below wr.heap.size wr w') (with_reducible first | assumption) ((go_at_fn g; refine hcall.mono ?_; rintro e w' ⟨rfl, hb0⟩; have hb' : Below wr.drew.heap.size wr.drew w' := hb0; have hK1 : w'.cell? (ad.add (hi * 4)) = some (.string y.f0) ∧ w'.cell? ⟨(ad.add (hi * 4)).block, (ad.add (hi * 4)).off + 1, none⟩ = some (.int .i64 y.f1) ∧ w'.cell? ⟨(ad.add (hi * 4)).block, (ad.add (hi * 4)).off + 2, none⟩ = some (.int .i64 y.f2) ∧ w'.cell? ⟨(ad.add (hi * 4)).block, (ad.add (hi * 4)).off + 3, none⟩ = some (.string y.f3) ∧ w'.cell? ⟨gb, 0, none⟩ = some (.string t.f0) ∧ w'.cell? ⟨gb, 1, none⟩ = some (.int .i64 t.f1) ∧ w'.cell? ⟨gb, 2, none⟩ = some (.int .i64 t.f2) ∧ w'.cell? ⟨gb, 3, none⟩ = some (.string t.f3) ∧ Below wr.heap.size wr w' := ⟨cellK hK.1 hb', cellK hK.2.1 hb', cellK hK.2.2.1 hb', cellK hK.2.2.2.1 hb', cellK hK.2.2.2.2.1 hb', cellK hK.2.2.2.2.2.1 hb', cellK hK.2.2.2.2.2.2.1 hb', cellK hK.2.2.2.2.2.2.2.1 hb', hK.2.2.2.2.2.2.2.2.trans (hb'.mono hK.2.2.2.2.2.2.2.2.size)⟩))
          go_wp2
          go_ret2
          exact ⟨by rw [HQ.out]; simp [hyx], BW.out.trans (hK1.2.2.2.2.2.2.2.2.mono BW.out.size)⟩
      · have hne : zs[bsAt cf zs]? = none := by rw [RR.out]; exact List.getElem?_eq_none (by rw [HN.out]; omega)
        have hf : hit = false := by rw [← HH.out]; exact bsHit_none cf zs hne
        subst hf
        clear hne
        go_wp2
        go_quiet (fail)
        go_wp2
        go_ret2
        exact ⟨rfl, pw_below_drewN BW.out _⟩
end Go.Proofs.YtjibadlbiapcmaaDoor.PX.X
