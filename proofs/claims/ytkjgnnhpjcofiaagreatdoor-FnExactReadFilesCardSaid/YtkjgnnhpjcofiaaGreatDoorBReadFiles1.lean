/- Texts of this claim set one behind another by wip/bundle.py: XHexL. -/

namespace Go.Proofs.YtkjgnnhpjcofiaaGreatDoor.PX.X
def hexD (d : Nat) : UInt8 := if d < 10 then UInt8.ofNat (48 + d) else UInt8.ofNat (87 + d)
def hexF : Nat → Nat → List UInt8
 | 0, u => [hexD u]
 | f + 1, u => if u < 16 then [hexD u] else hexF f (u / 16) ++ [hexD (u % 16)]
def hexL (u : Nat) : List UInt8 := hexF 3 u
theorem hexF_small (f u : Nat) (h : u < 16) : hexF f u = [hexD u] := by
 cases f with
 | zero => rfl
 | succ f => exact if_pos h
theorem hexF_big (f u : Nat) (h : ¬ u < 16) : hexF (f + 1) u = hexF f (u / 16) ++ [hexD (u % 16)] := if_neg h
theorem hexF_len : ∀ (f u : Nat), 1 ≤ (hexF f u).length ∧ (hexF f u).length ≤ f + 1
 | 0, u => ⟨Nat.le_refl _, Nat.le_refl _⟩
 | f + 1, u => by
   by_cases h : u < 16
   · rw [hexF_small _ u h]
     exact ⟨Nat.le_refl _, by show 1 ≤ _; omega⟩
   · rw [hexF_big f u h, List.length_append]
     have := hexF_len f (u / 16)
     show 1 ≤ _ + 1 ∧ _ + 1 ≤ _
     omega
theorem hexL_len (u : Nat) : 1 ≤ (hexL u).length ∧ (hexL u).length ≤ 4 := hexF_len 3 u
end Go.Proofs.YtkjgnnhpjcofiaaGreatDoor.PX.X
