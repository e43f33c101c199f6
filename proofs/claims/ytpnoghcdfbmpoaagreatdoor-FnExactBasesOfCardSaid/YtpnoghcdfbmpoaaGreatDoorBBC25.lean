/- Texts of this claim set one behind another by wip/bundle.py: XIdxS. -/
import Derived.Test.YtpnoghcdfbmpoaaGreatDoorBBC15
import Derived.Shelf.SlicesQ.Load
import Derived.Lib.SlBy
import Derived.Lib.Hide
namespace Go.Proofs.YtpnoghcdfbmpoaaGreatDoor.PX.X
open Go Go.RowKit Go.Lib Go.Proofs.YtpnoghcdfbmpoaaGreatDoorW.PrintWords
set_option linter.unusedVariables false
theorem getBangS (l : List ByteArray) (i : Nat) : l[i]! = l.getD i ByteArray.empty := by
 rw [List.getElem!_eq_getElem?_getD, List.getD_eq_getElem?_getD]
 rfl
set_option maxHeartbeats 4000000 in
theorem idxS (p : ByteArray → Bool) (g : Nat) (lb : Array Value) (eg : ∀ args w, (callFunc g args).run Tryz.prog w = .ok (.enter g args) w) (zs : List ByteArray) (A0 : Option Addr) (c : Nat) (w : World)
 (hp : ∀ (W : World) (x : ByteArray), x ∈ zs → Below w.heap.size w W → Calls Tryz.prog g (#[.string x] ++ lb) W fun e w' => e = .returned (.bool (p x)) ∧ Below w.heap.size w w')
 (hr : Kd.C Kd.string w A0 zs.length zs) (hbig : zs.length ≤ 9223372036854775807) :
 Calls Tryz.prog 100 #[.slice A0 zs.length c, .func (.func g) #[] lb] w fun e w' => e = .returned (.int .i64 (Lib.idxBy (fun _ y => p y) zs default)) ∧ Below w.heap.size w w' := by
 have hn : zs.take zs.length = zs := List.take_length
 generalize hnn : zs.length = n at hr hbig hn ⊢
 have HR := Lib.hid hr
 have HP := Lib.hid hp
 have HN := Lib.hid hnn
 clear hr hp hnn
 go_enter Tryz.func100, Tryz.ntmps100
 go_wp2
 go_loopg [5, 8] n (fun gg _ s8 wr => ∃ kk : Nat, kk ≤ n ∧ n - kk ≤ gg ∧ s8 = .int .i64 kk ∧ Aside (Below w.heap.size w wr) ∧ Aside (∀ j, j < kk → p zs[j]! = false))
 case atStart => exact ⟨0, Nat.zero_le _, by omega, rfl, Below.refl _ w, fun j hj => absurd hj (Nat.not_lt_zero _)⟩
 case round =>
  obtain ⟨kk, hkk, hg, rfl, BW, A⟩ := hrel
  by_cases hlt : kk < n
  · have hltz : (kk : Int) < (n : Int) := by omega
    have hkz : (0 : Int) ≤ (kk : Int) := by omega
    obtain ⟨ad, rfl, q0⟩ := Kd.at_string (Kd.C_below HR.out BW.out) (kk : Int) hkz hltz
    have hlz : kk < zs.length := by rw [HN.out]; exact hlt
    have ez : zs[kk]! = rdOf ByteArray.empty zs (kk : Int) := by
     rw [getBangS]
     show _ = zs.getD ((kk : Int)).toNat _
     rw [Int.toNat_natCast]
    have hmem : zs[kk]! ∈ zs := by
     rw [getBangS, List.getD_eq_getElem?_getD, List.getElem?_eq_getElem hlz, Option.getD_some]
     exact List.getElem_mem hlz
    rw [← ez, Int.toNat_natCast] at q0
    have hcall := HP.out wr zs[kk]! hmem BW.out
    have HZ := Lib.hid hlz
    clear hlz ez hmem
    generalize hy : zs[kk]! = y at q0 hcall
    have B : Aside (zs[kk]! = y) := hy
    clear hy
    cases hq : p y with
    | true =>
      rw [hq] at hcall
      go_wp2_with (go_at_fn g; refine hcall.mono ?_; rintro e w' ⟨rfl, hb'⟩)
      go_ret
      refine ⟨?_, hb'⟩
      have hz := HZ.out
      rw [← hn, Lib.idxBy_hit (fun _ y => p y) zs n kk default hlt (by have := HN.out; omega) (by show p zs[kk]! = true; rw [B.out]; exact hq) A.out]
      rfl
    | false =>
      rw [hq] at hcall
      go_wp2_with (go_at_fn g; refine hcall.mono ?_; rintro e w' ⟨rfl, hb'⟩)
      go_roundg (n - (kk + 1))
      case measure => omega
      case rel =>
       refine ⟨kk + 1, by omega, by omega, by go_num, hb', (show Aside _ from fun j hj => ?_)⟩
       by_cases e : j = kk
       · subst e
         rw [B.out]; exact hq
       · exact A.out j zq6
  · have hltz : ¬ (kk : Int) < (n : Int) := by omega
    have : kk = n := by omega
    subst this
    go_wp2
    go_ret
    refine ⟨?_, BW.out⟩
    rw [← hn, Lib.idxBy_miss (fun _ y => p y) zs kk default A.out]
    rfl
set_option maxHeartbeats 4000000 in
theorem conS (p : ByteArray → Bool) (g : Nat) (lb : Array Value) (eg : ∀ args w, (callFunc g args).run Tryz.prog w = .ok (.enter g args) w) (zs : List ByteArray) (A0 : Option Addr) (c : Nat) (w : World)
 (hp : ∀ (W : World) (x : ByteArray), x ∈ zs → Below w.heap.size w W → Calls Tryz.prog g (#[.string x] ++ lb) W fun e w' => e = .returned (.bool (p x)) ∧ Below w.heap.size w w')
 (hr : Kd.C Kd.string w A0 zs.length zs) (hbig : zs.length ≤ 9223372036854775807) :
 Calls Tryz.prog 71 #[.slice A0 zs.length c, .func (.func g) #[] lb] w fun e w' => e = .returned (.bool (zs.any p)) ∧ Below w.heap.size w w' := by
 rw [show zs.any p = decide (0 ≤ Lib.idxBy (fun _ y => p y) zs default) from (Lib.idxBy_nonneg_iff (fun _ y => p y) zs default).symm]
 have HI := Lib.hid (idxS p g lb eg zs A0 c w hp hr hbig)
 clear hp hr
 generalize Lib.idxBy (fun _ y => p y) zs default = r at HI ⊢
 go_enter Tryz.func71, Tryz.ntmps71
 go_wp2_with (go_at_call 100; refine HI.out.mono ?_; rintro e w' ⟨rfl, hb'⟩)
 go_ret
 exact ⟨rfl, hb'⟩
end Go.Proofs.YtpnoghcdfbmpoaaGreatDoor.PX.X
