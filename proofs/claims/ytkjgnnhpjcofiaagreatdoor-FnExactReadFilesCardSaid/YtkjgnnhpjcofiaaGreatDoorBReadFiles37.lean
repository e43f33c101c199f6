/- Texts of this claim set one behind another by wip/bundle.py: XIdOf, PXf76. -/
import Derived.Test.YtkjgnnhpjcofiaaGreatDoorBReadFiles36
import Derived.Test.YtkjgnnhpjcofiaaGreatDoorBReadFiles15
import Derived.IntWalk
import Derived.Deep.QuietTactic
import Derived.BigQuiet
import Derived.Test.YtkjgnnhpjcofiaaGreatDoorBReadFiles8
import Derived.Test.YtkjgnnhpjcofiaaGreatDoorBReadFiles14
namespace Go.Proofs.YtkjgnnhpjcofiaaGreatDoor.PX.X
open Go Go.RowKit Go.Lib Go.Proofs.YtkjgnnhpjcofiaaGreatDoorW.PrintWords Go.Proofs.YtkjgnnhpjcofiaaGreatDoor.PX
set_option linter.unusedVariables false
set_option linter.unusedSimpArgs false
set_option maxHeartbeats 1000000 in
set_option maxRecDepth 100000 in
theorem idOf_calls (k kind : Nat) (hk1 : 1 ≤ kind) (hk3 : kind ≤ 3) (data : ByteArray) (h : Nat) (hh : h < 65536) (hd : impl_DigestOf.f k data = some (h : Int)) (w : World) (hG : Gt w) :
 Calls Tryz.prog 76 #[.int .i64 kind, .string data] w fun e w' => e = .returned (.string (idB kind h)) ∧ Below w.heap.size w w' := by
 have HG := Lib.hid hG
 have HD := Lib.hid hd
 have HL := hexL_len h
 have hsz : (⟨(hexL h).toArray⟩ : ByteArray).size = (hexL h).length := by rw [← List.size_toArray]; rfl
 obtain ⟨c, hc⟩ : ∃ c, c + (hexL h).length = 4 := ⟨4 - (hexL h).length, by omega⟩
 have hcw : IntKind.i64.wrap (4 - ((hexL h).length : Int)) = (c : Int) := by rw [IntKind.wrap_i64]; omega
 have hrep : ∀ W, Calls Tryz.prog 125 #[.string ⟨#[48]⟩, .int .i64 (c : Int)] W fun e w' => e = .returned (.string ⟨(zeros0 c).toArray⟩) ∧ ∃ m, w' = W.drewN m := fun W => (rep_calls c zq7 W).mono fun e w' ⟨he, hw⟩ => ⟨he, hw.out⟩
 have HC := Lib.hid hc
 have HR := Lib.hid hrep
 have hid : ∀ j : Nat, idB j h = ⟨(letter j :: (zeros0 c ++ hexL h)).toArray⟩ := fun j => by
  unfold idB
  rw [show 4 - (hexL h).length = c from by omega]
 have hzs : (⟨(zeros0 c).toArray⟩ : ByteArray).size = c := by
  show (zeros0 c).toArray.size = c
  rw [List.size_toArray]
  exact List.length_replicate
 have hcb : c ≤ 3 := by omega
 have hlb : (hexL h).length ≤ 4 := HL.2
 have HID := Lib.hid hid
 clear hG hd hc hrep hid HL
 obtain rfl | rfl | rfl : kind = 1 ∨ kind = 2 ∨ kind = 3 := by omega
 all_goals
  go_enter Tryz.func76, Tryz.ntmps76
  go_wp2_with (first | (go_at_call 124; (with_reducible refine (impl_DigestOf.calls k data (h : Int) _ HD.out).mono ?_); rintro e w1 ⟨rfl, hb1⟩; have HB1 := Lib.hid hb1; clear hb1) | (go_at_call 123; (with_reducible refine (fmt_calls h hh _ (HG.out.below HB1.out.below)).mono ?_); rintro e w2 ⟨rfl, hb2⟩; have HB2 := Lib.hid hb2; clear hb2))
  have hz1 : (9223372036854775807 < 1 + c) = False := by simp; omega
  have hz2 : (9223372036854775807 < 1 + c + (hexL h).length) = False := by simp; omega
  go_quiet ((go_at_call 125; exact Calls.quiet_of (HR.out _)))
  go_wp2
  go_ret
  refine ⟨?_, HB1.out.below.trans ((pw_below_drewN HB2.out _).mono HB1.out.below.size)⟩
  show Ending.returned (Value.string _) = _
  rw [HID.out]
  congr 2
end Go.Proofs.YtkjgnnhpjcofiaaGreatDoor.PX.X

namespace Go.Proofs.YtkjgnnhpjcofiaaGreatDoor.PX
open Go.RowKit Go.Proofs.YtkjgnnhpjcofiaaGreatDoorW.PrintWords Go.Proofs.YtkjgnnhpjcofiaaGreatDoorW.PrintLast Go.Proofs.YtkjgnnhpjcofiaaGreatDoorW.PrintMore
attribute [local go_sem] max2_int min2_int max_two min_two max_three min_three max_four min_four   -- for this text's walks alone
set_option linter.unusedVariables false
set_option linter.unusedSimpArgs false
def impl_idOf.f (k : Nat) (a0 : Int) (a1 : ByteArray) : Option ByteArray := (impl_DigestOf.f k a1).bind fun h => if 1 ≤ a0 then (if a0 ≤ 3 then (if 0 ≤ h then (if h < 65536 then some (X.idB a0.toNat h.toNat) else none) else none) else none) else none
theorem impl_idOf.calls (k : Nat) (a0 : Int) (a1 : ByteArray) (r : ByteArray) (w : World) (hG : Gt w) (h : impl_idOf.f k a0 a1 = some r) :
  Calls Tryz.prog 76 #[.int .i64 a0, .string a1] w fun e w' => e = .returned (.string r) ∧ Below w.heap.size w w' := by
 unfold impl_idOf.f at h
 cases hd : impl_DigestOf.f k a1 with
 | none => rw [hd] at h; cases h
 | some d =>
  rw [hd, Option.bind_some] at h
  by_cases h1 : 1 ≤ a0
  ·
   rw [if_pos h1] at h
   by_cases h2 : a0 ≤ 3
   ·
    rw [if_pos h2] at h
    by_cases h3 : 0 ≤ d
    ·
     rw [if_pos h3] at h
     by_cases h4 : d < 65536
     ·
      rw [if_pos h4] at h
      obtain rfl := Option.some.inj h
      obtain ⟨n, rfl⟩ := Int.eq_ofNat_of_zero_le h3
      obtain ⟨j, rfl⟩ := Int.eq_ofNat_of_zero_le (show (0 : Int) ≤ a0 by omega)
      exact X.idOf_calls k j zq7 zq7 a1 n zq7 hd w hG
     rw [if_neg h4] at h
     cases h
    rw [if_neg h3] at h
    cases h
   rw [if_neg h2] at h
   cases h
  rw [if_neg h1] at h
  cases h
end Go.Proofs.YtkjgnnhpjcofiaaGreatDoor.PX
