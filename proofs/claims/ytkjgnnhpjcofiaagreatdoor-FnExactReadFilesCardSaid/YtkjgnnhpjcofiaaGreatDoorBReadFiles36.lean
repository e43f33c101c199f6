/- Texts of this claim set one behind another by wip/bundle.py: XRep. -/
import Derived.Test.YtkjgnnhpjcofiaaGreatDoorBReadFiles31
import Derived.Test.YtkjgnnhpjcofiaaGreatDoorBReadFiles15
import Derived.Lib.Hide
namespace Go.Proofs.YtkjgnnhpjcofiaaGreatDoor.PX.X
open Go Go.RowKit Go.Lib Go.Proofs.YtkjgnnhpjcofiaaGreatDoorW.PrintWords Go.Proofs.YtkjgnnhpjcofiaaGreatDoor.PX
set_option linter.unusedVariables false
set_option linter.unusedSimpArgs false
theorem drawn_trans {a b c : World} (h : Drawn0 a b) (h2 : Drawn0 b c) : Drawn0 a c := by
 obtain ⟨n, rfl⟩ := h
 obtain ⟨m, rfl⟩ := h2
 exact ⟨⟨n + m, by rw [World.drewN_drewN]⟩⟩
def zeros0 (c : Nat) : List UInt8 := List.replicate c 48
set_option maxHeartbeats 1000000 in
set_option maxRecDepth 100000 in
theorem rep_calls (c : Nat) (h : c ≤ 3) (w : World) : Calls Tryz.prog 125 #[.string ⟨#[48]⟩, .int .i64 c] w fun e w' => e = .returned (.string ⟨(zeros0 c).toArray⟩) ∧ Drawn0 w w' := by
 match c, h with
 | 0, _ =>
   go_enter Tryz.func125, Tryz.ntmps125
   go_wp2
   go_ret
   exact ⟨rfl, Drawn0.refl _⟩
 | 1, _ =>
   go_enter Tryz.func125, Tryz.ntmps125
   go_wp2
   go_ret
   exact ⟨rfl, Drawn0.refl _⟩
 | 2, _ =>
   have hm : bits_Mul.f 1 2 = some (0, 2) := by decide +kernel
   have HM := Lib.hid hm
   have HB := Lib.hid (Drawn0.refl w)
   clear hm
   go_enter Tryz.func125, Tryz.ntmps125
   go_wp2_with (first | (go_at_call 173; (with_reducible refine (bits_Mul.calls 1 2 0 2 _ HM.out).mono ?_); rintro e w' ⟨rfl, hb⟩; have HB := Lib.hid (drawn_trans HB.out hb); clear hb) | (go_at_call 143; first | (refine (strings_HasPrefix.calls _ _ false _ ?h).mono ?_; (case h => decide +kernel); rintro e w2 ⟨rfl, hb⟩; have HB := Lib.hid (drawn_trans HB.out hb); clear hb) | (refine (strings_HasPrefix.calls _ _ true _ ?h).mono ?_; (case h => decide +kernel); rintro e w2 ⟨rfl, hb⟩; have HB := Lib.hid (drawn_trans HB.out hb); clear hb)))
   go_ret
   exact ⟨rfl, HB.out⟩
 | 3, _ =>
   have hm : bits_Mul.f 1 3 = some (0, 3) := by decide +kernel
   have HM := Lib.hid hm
   have HB := Lib.hid (Drawn0.refl w)
   clear hm
   go_enter Tryz.func125, Tryz.ntmps125
   go_wp2_with (first | (go_at_call 173; (with_reducible refine (bits_Mul.calls 1 3 0 3 _ HM.out).mono ?_); rintro e w' ⟨rfl, hb⟩; have HB := Lib.hid (drawn_trans HB.out hb); clear hb) | (go_at_call 143; first | (refine (strings_HasPrefix.calls _ _ false _ ?h).mono ?_; (case h => decide +kernel); rintro e w2 ⟨rfl, hb⟩; have HB := Lib.hid (drawn_trans HB.out hb); clear hb) | (refine (strings_HasPrefix.calls _ _ true _ ?h).mono ?_; (case h => decide +kernel); rintro e w2 ⟨rfl, hb⟩; have HB := Lib.hid (drawn_trans HB.out hb); clear hb)))
   go_ret
   exact ⟨rfl, HB.out⟩
def letter (k : Nat) : UInt8 := if k = 1 then 98 else if k = 2 then 116 else 99
def idB (k h : Nat) : ByteArray := ⟨(letter k :: (zeros0 (4 - (hexL h).length) ++ hexL h)).toArray⟩
end Go.Proofs.YtkjgnnhpjcofiaaGreatDoor.PX.X
