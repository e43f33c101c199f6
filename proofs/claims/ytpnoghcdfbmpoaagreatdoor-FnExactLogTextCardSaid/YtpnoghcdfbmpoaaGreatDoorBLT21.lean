/- Texts of this claim set one behind another by wip/bundle.py: XDigits. -/
import Derived.Test.YtpnoghcdfbmpoaaGreatDoorBLT10
import Derived.Lib.ItoaNum
import Derived.Lib.ItoaMem
import Derived.Test.YtpnoghcdfbmpoaaGreatDoorBLT15
namespace Go.Proofs.YtpnoghcdfbmpoaaGreatDoorX
open Go Go.RowKit Go.Proofs.YtpnoghcdfbmpoaaGreatDoorW.PrintWords Go.Proofs.YtpnoghcdfbmpoaaGreatDoor.PX
set_option linter.unusedVariables false
set_option linter.unusedSimpArgs false
theorem digits_le : ∀ (n u : Nat), u ≤ n → (Lib.decDigits u).length ≤ u + 1
 | 0, u, h => by
   rw [Lib.decDigits, dif_pos zq7]
   simp
 | n + 1, u, h => by
   rw [Lib.decDigits]
   split
   · simp
   · rename_i h10
     have := digits_le n (u / 10) zq7
     rw [List.length_append, List.length_singleton]
     omega
theorem digit_mkB (a : Int) (d : Nat) (hd : d < 10) (h : a = ((48 + d : Nat) : Int)) : strOfNums [(wrap64 a) % 256] = mkB [UInt8.ofNat (48 + d)] := by
 subst h
 rw [wrap_in zq7 zq7]
 have e : (((48 + d : Nat) : Int) % 256).toNat = 48 + d := by omega
 unfold strOfNums mkB
 rw [List.map_cons, List.map_nil, e]
theorem mkB_append (a b : List UInt8) : mkB a ++ mkB b = mkB (a ++ b) := by
 refine ByteArray.ext ?_
 unfold mkB
 simp
theorem mkB_len (a : List UInt8) : (mkB a).size = a.length := List.size_toArray
theorem spec_digits : ∀ (k u : Nat), u < 10 ^ (k + 1) → u ≤ 1000000000000 → spec_l3Digits.f (k + 1) (u : Int) = some (mkB (Lib.decDigits u))
 | k, u, h, hu => by
   rw [spec_l3Digits.f, Lib.decDigits]
   by_cases h10 : u < 10
   · rw [if_pos zq7, dif_pos h10, digit_mkB _ u h10 zq7]
   · match k, h with
     | 0, h => exact absurd h (by simpa using h10)
     | k + 1, h =>
       have hd : Int.tdiv (u : Int) 10 = ((u / 10 : Nat) : Int) := by
        rw [Int.tdiv_eq_ediv_of_nonneg zq7]
        rfl
       have hm : Int.tmod (u : Int) 10 = ((u % 10 : Nat) : Int) := by
        rw [Int.tmod_eq_emod_of_nonneg zq7]
        rfl
       have ih := spec_digits k (u / 10) (by rw [Nat.pow_succ] at h; omega) zq7
       have hl := digits_le (u / 10) (u / 10) (Nat.le_refl _)
       rw [if_neg zq7, dif_neg h10, hd, wrap_in zq7 zq7, ih, Option.bind_some, hm, Option.bind_some, digit_mkB (48 + ((u % 10 : Nat) : Int)) (u % 10) zq7 zq7, mkB_append]
       rw [if_pos (by rw [mkB_len, mkB_len]; simp only [List.length_singleton]; omega)]
end Go.Proofs.YtpnoghcdfbmpoaaGreatDoorX
