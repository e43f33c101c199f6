/- Texts of this claim set one behind another by wip/bundle.py: XIdxE. -/
import Derived.Test.YtjibadlbiapcmaaDoorBRP15
import Derived.Shelf.SlicesQ.Load
import Derived.Lib.SlBy
import Derived.Lib.Hide
namespace Go.Proofs.YtjibadlbiapcmaaDoor.PX.X
open Go Go.RowKit Go.Lib Go.Proofs.YtjibadlbiapcmaaDoorW.PrintWords
set_option linter.unusedVariables false
theorem getBangE (l : List EntT) (i : Nat) : l[i]! = l.getD i z80 := by
  rw [List.getElem!_eq_getElem?_getD, List.getD_eq_getElem?_getD]
  rfl
set_option maxHeartbeats 4000000 in
theorem idxE (p : EntT → Bool) (g : Nat) (lb : Array Value) (eg : ∀ args w, (callFunc g args).run Tryd.prog w = .ok (.enter g args) w) (zs : List EntT) (A0 : Option Addr) (c : Nat) (w : World)
    (hp : ∀ (W : World) (x : EntT), x ∈ zs → Below w.heap.size w W → Calls Tryd.prog g (#[.agg #[.string x.f0, .int .i64 x.f1, .int .i64 x.f2, .string x.f3]] ++ lb) W fun e w' => e = .returned (.bool (p x)) ∧ Below w.heap.size w w')
    (hr : Kd.C k80 w A0 zs.length zs) (hbig : zs.length ≤ 9223372036854775807) :
    Calls Tryd.prog 168 #[.slice A0 zs.length c, .func (.func g) #[] lb] w fun e w' => e = .returned (.int .i64 (Lib.idxBy (fun _ y => p y) zs default)) ∧ Below w.heap.size w w' := by
  have hn : zs.take zs.length = zs := List.take_length
  generalize hnn : zs.length = n at hr hbig hn ⊢
  have HR := Lib.hid hr
  have HP := Lib.hid hp
  have HN := Lib.hid hnn
  clear hr hp hnn
  go_enter Tryd.func168, Tryd.ntmps168
  go_wp2
  go_loopg [5, 8] n (fun gg _ s8 wr => ∃ kk : Nat, kk ≤ n ∧ n - kk ≤ gg ∧ s8 = .int .i64 kk ∧ Aside (Below w.heap.size w wr) ∧ Aside (∀ j, j < kk → p zs[j]! = false))
  case atStart => exact ⟨0, Nat.zero_le _, by omega, rfl, Below.refl _ w, fun j hj => absurd hj (Nat.not_lt_zero _)⟩
  case round =>
    obtain ⟨kk, hkk, hg, rfl, BW, A⟩ := hrel
    by_cases hlt : kk < n
    · have hltz : (kk : Int) < (n : Int) := by omega
      have hkz : (0 : Int) ≤ (kk : Int) := by omega
      have hlz : kk < zs.length := by rw [HN.out]; exact hlt
      have hmem : zs[kk]! ∈ zs := by
        rw [getBangE, List.getD_eq_getElem?_getD, List.getElem?_eq_getElem hlz, Option.getD_some]
        exact List.getElem_mem hlz
      have hxs : zs[kk]? = some (zs[kk]!) := by
        rw [getBangE, List.getD_eq_getElem?_getD, List.getElem?_eq_getElem hlz, Option.getD_some]
      have hcall := HP.out wr zs[kk]! hmem BW.out
      have HZ := Lib.hid hlz
      clear hlz hmem
      generalize hy : zs[kk]! = y at hcall hxs
      have B : Aside (zs[kk]! = y) := hy
      clear hy
      obtain ⟨ad, rfl, hcl⟩ := C_cells flatE (Kd.C_below HR.out BW.out) kk y hxs
      have l2 : Sem.run Tryd.prog (loadCellsFrom (ad.add (kk * 4)) 0 4 #[]) wr = .ok #[.string y.f0, .int .i64 y.f1, .int .i64 y.f2, .string y.f3] wr := run_loadCellsFrom_list _ _ _ (encE y) 4 rfl hcl
      have q0 : wr.cell? (ad.add (kk * 4)) = some (.string y.f0) := hcl 0 _ rfl
      have q1 : wr.cell? ⟨(ad.add (kk * 4)).block, (ad.add (kk * 4)).off + 1, none⟩ = some (.int .i64 y.f1) := hcl 1 _ rfl
      have q2 : wr.cell? ⟨(ad.add (kk * 4)).block, (ad.add (kk * 4)).off + 2, none⟩ = some (.int .i64 y.f2) := hcl 2 _ rfl
      have q3 : wr.cell? ⟨(ad.add (kk * 4)).block, (ad.add (kk * 4)).off + 3, none⟩ = some (.string y.f3) := hcl 3 _ rfl
      clear hcl hxs
      cases hq : p y with
      | true =>
        rw [hq] at hcall
        go_wp2_with (go_at_fn g; refine hcall.mono ?_; rintro e w' ⟨rfl, hb'⟩)
        go_ret
        refine ⟨?_, hb'⟩
        have hz := HZ.out
        rw [← hn, Lib.idxBy_hit (fun _ y => p y) zs n kk default hlt (by have := HN.out; omega) (by show p zs[kk]! = true; rw [B.out]; exact hq) A.out]
        rfl
      | false =>
        rw [hq] at hcall
        go_wp2_with (go_at_fn g; refine hcall.mono ?_; rintro e w' ⟨rfl, hb'⟩)
        go_roundg (n - (kk + 1))
        case measure => omega
        case rel =>
          refine ⟨kk + 1, by omega, by omega, by go_num, hb', (show Aside _ from fun j hj => ?_)⟩
          by_cases e : j = kk
          · subst e
            rw [B.out]; exact hq
          · exact A.out j (by omega)
    · have hltz : ¬ (kk : Int) < (n : Int) := by omega
      have : kk = n := by omega
      subst this
      go_wp2
      go_ret
      refine ⟨?_, BW.out⟩
      rw [← hn, Lib.idxBy_miss (fun _ y => p y) zs kk default A.out]
      rfl
end Go.Proofs.YtjibadlbiapcmaaDoor.PX.X
