/- Texts of this claim set one behind another by wip/bundle.py: XBsO. -/
import Derived.Test.YtkjgnnhpjcofiaaGreatDoorBReadFiles17
import Derived.Test.YtkjgnnhpjcofiaaGreatDoorBReadFiles12
import Derived.Shelf.SlicesQ.Load
import Derived.Lib.Hide
namespace Go.Proofs.YtkjgnnhpjcofiaaGreatDoor.PX.X
open Go Go.RowKit Go.Lib Go.Proofs.YtkjgnnhpjcofiaaGreatDoorW.PrintWords
set_option linter.unusedVariables false
set_option linter.unusedSimpArgs false
set_option maxHeartbeats 4000000 in
theorem bsrO (cf : ObjT → Int) (tv : Value) (g : Nat) (eg : ∀ args w, (callFunc g args).run Tryz.prog w = .ok (.enter g args) w) (zs : List ObjT) (A0 : Option Addr) (c : Nat) (w : World)
 (hp : ∀ (W : World) (x : ObjT), x ∈ zs → Below w.heap.size w W → Calls Tryz.prog g (#[.agg #[.string x.f0, .int .i64 x.f1, .string x.f2], tv] ++ #[]) W fun e w' => e = .returned (.int .i64 (cf x)) ∧ Below W.heap.size W w')
 (hr : Kd.C k65 w A0 zs.length zs) (hbig : zs.length ≤ 1048576) :
 Calls Tryz.prog 206 #[.slice A0 zs.length c, tv, .func (.func g) #[] #[]] w fun e w' => e = .returned (.tuple #[.int .i64 (bsAt cf zs : Nat), .bool (bsHit cf zs)]) ∧ Below w.heap.size w w' := by
 have HR := Lib.hid hr
 have HP := Lib.hid hp
 have hn0 : zs.length = zs.length := rfl
 generalize hnn : zs.length = n at hbig ⊢
 have HN := Lib.hid hnn
 clear hr hp hnn hn0
 obtain ⟨r, hr⟩ : ∃ r, bsAt cf zs = r := ⟨_, rfl⟩
 obtain ⟨hit, hh⟩ : ∃ q, bsHit cf zs = q := ⟨_, rfl⟩
 have RR := Lib.hid hr
 have HH := Lib.hid hh
 rw [hr, hh]
 clear hr hh
 go_enter Tryz.func206, Tryz.ntmps206
 go_wp2
 go_loopg [9, 10, 11] n (fun gg s9 s10 _ wr => ∃ lo hi : Nat, s9 = .int .i64 lo ∧ s10 = .int .i64 hi ∧ lo ≤ hi ∧ hi ≤ n ∧ hi - lo ≤ gg ∧ Aside (Below w.heap.size w wr) ∧ Aside (∃ f, hi - lo ≤ f ∧ bsF (bsLt cf zs) f lo hi = r))
 case atStart => exact ⟨0, n, rfl, rfl, Nat.zero_le _, Nat.le_refl _, by omega, Below.refl _ w, (show Aside _ from ⟨n, by omega, by have h1 := RR.out; unfold bsAt at h1; rw [HN.out] at h1; exact h1⟩)⟩
 case round =>
  obtain ⟨lo, hi, rfl, rfl, hlh, hin, hg, BW, AF⟩ := hrel
  by_cases hlt : lo < hi
  · have hq : (lo + hi) / 2 < n := by omega
    have hqz : (((lo + hi) / 2 : Nat) : Int) < (n : Int) := by omega
    have hxs : zs[(lo + hi) / 2]? = some (zs[(lo + hi) / 2]'(by rw [HN.out]; exact hq)) := List.getElem?_eq_getElem _
    have hmem := List.mem_of_getElem? hxs
    generalize zs[(lo + hi) / 2]'(by rw [HN.out]; exact hq) = y at hxs hmem
    obtain ⟨ad, rfl, hcl⟩ := C_cells flatO (Kd.C_below HR.out BW.out) ((lo + hi) / 2) y hxs
    have l2 : Sem.run Tryz.prog (loadCellsFrom (ad.add ((lo + hi) / 2 * 3)) 0 3 #[]) wr = .ok #[.string y.f0, .int .i64 y.f1, .string y.f2] wr := run_loadCellsFrom_list _ _ _ (encO y) 3 rfl hcl
    have q0 : wr.cell? (ad.add ((lo + hi) / 2 * 3)) = some (.string y.f0) := hcl 0 _ rfl
    have q1 : wr.cell? ⟨(ad.add ((lo + hi) / 2 * 3)).block, (ad.add ((lo + hi) / 2 * 3)).off + 1, none⟩ = some (.int .i64 y.f1) := hcl 1 _ rfl
    have q2 : wr.cell? ⟨(ad.add ((lo + hi) / 2 * 3)).block, (ad.add ((lo + hi) / 2 * 3)).off + 2, none⟩ = some (.string y.f2) := hcl 2 _ rfl
    have hcall := HP.out wr y hmem BW.out
    have XS := Lib.hid hxs
    clear hmem hcl hxs
    generalize hcy : cf y = q at hcall
    have CY := Lib.hid hcy
    clear hcy
    by_cases hyx : q < 0
    · go_wp2_with (go_at_fn g; refine hcall.mono ?_; rintro e w' ⟨rfl, hb'⟩)
      go_roundg (hi - ((lo + hi) / 2 + 1))
      case measure => omega
      case rel =>
       refine ⟨(lo + hi) / 2 + 1, hi, by rw [show ((lo : Int) + (hi : Int)) / 2 + 1 = (((lo + hi) / 2 + 1 : Nat) : Int) by omega], rfl, by omega, hin, Nat.le_refl _, BW.out.trans (hb'.mono BW.out.size), (show Aside _ from ?_)⟩
       obtain ⟨f, hf, he⟩ := AF.out
       obtain ⟨f, rfl⟩ : ∃ m, f = m + 1 := ⟨f - 1, by omega⟩
       rw [bsF_up _ f lo hi hlt (by rw [bsLt_at cf zs _ y XS.out, CY.out]; exact decide_eq_true hyx)] at he
       exact ⟨f, by omega, he⟩
    · go_wp2_with (go_at_fn g; refine hcall.mono ?_; rintro e w' ⟨rfl, hb'⟩)
      go_roundg ((lo + hi) / 2 - lo)
      case measure => omega
      case rel =>
       refine ⟨lo, (lo + hi) / 2, rfl, by rw [show ((lo : Int) + (hi : Int)) / 2 = (((lo + hi) / 2 : Nat) : Int) by omega], by omega, by omega, Nat.le_refl _, BW.out.trans (hb'.mono BW.out.size), (show Aside _ from ?_)⟩
       obtain ⟨f, hf, he⟩ := AF.out
       obtain ⟨f, rfl⟩ : ∃ m, f = m + 1 := ⟨f - 1, by omega⟩
       rw [bsF_down _ f lo hi hlt (by rw [bsLt_at cf zs _ y XS.out, CY.out]; exact decide_eq_false zq7)] at he
       exact ⟨f, by omega, he⟩
  · obtain rfl : hi = lo := by omega
    have hrr : hi = r := by
     obtain ⟨f, hf, he⟩ := AF.out
     rw [bsF_end _ f hi hi (Nat.lt_irrefl _)] at he
     exact he
    subst hrr
    clear AF hlt
    by_cases hn : hi < n
    · have hnz : (hi : Int) < (n : Int) := by omega
      have hxs : zs[hi]? = some (zs[hi]'(by rw [HN.out]; exact hn)) := List.getElem?_eq_getElem _
      have hmem := List.mem_of_getElem? hxs
      generalize zs[hi]'(by rw [HN.out]; exact hn) = y at hxs hmem
      obtain ⟨ad, rfl, hcl⟩ := C_cells flatO (Kd.C_below HR.out BW.out) hi y hxs
      have l2 : Sem.run Tryz.prog (loadCellsFrom (ad.add (hi * 3)) 0 3 #[]) wr = .ok #[.string y.f0, .int .i64 y.f1, .string y.f2] wr := run_loadCellsFrom_list _ _ _ (encO y) 3 rfl hcl
      have q0 : wr.cell? (ad.add (hi * 3)) = some (.string y.f0) := hcl 0 _ rfl
      have q1 : wr.cell? ⟨(ad.add (hi * 3)).block, (ad.add (hi * 3)).off + 1, none⟩ = some (.int .i64 y.f1) := hcl 1 _ rfl
      have q2 : wr.cell? ⟨(ad.add (hi * 3)).block, (ad.add (hi * 3)).off + 2, none⟩ = some (.string y.f2) := hcl 2 _ rfl
      have hcall := HP.out wr y hmem BW.out
      have hhit : hit = decide (cf y = 0) := by rw [← HH.out]; exact bsHit_at cf zs y (by rw [RR.out]; exact hxs)
      clear hmem hcl hxs
      generalize cf y = q at hcall hhit
      have HQ := Lib.hid hhit
      clear hhit
      by_cases hyx : q = 0
      · subst hyx
        go_wp2_with (go_at_fn g; refine hcall.mono ?_; rintro e w' ⟨rfl, hb'⟩)
        go_ret2
        exact ⟨by rw [HQ.out]; simp, BW.out.trans (hb'.mono BW.out.size)⟩
      · have hq2 : (q == 0) = false := beq_eq_false_iff_ne.2 hyx
        go_wp2_with (go_at_fn g; refine hcall.mono ?_; rintro e w' ⟨rfl, hb'⟩)
        go_ret2
        exact ⟨by rw [HQ.out]; simp [hyx], BW.out.trans (hb'.mono BW.out.size)⟩
    · have hne : zs[bsAt cf zs]? = none := by rw [RR.out]; exact List.getElem?_eq_none (by rw [HN.out]; omega)
      have hf : hit = false := by rw [← HH.out]; exact bsHit_none cf zs hne
      subst hf
      clear hne
      go_wp2
      go_ret2
      exact ⟨rfl, BW.out⟩
end Go.Proofs.YtkjgnnhpjcofiaaGreatDoor.PX.X
