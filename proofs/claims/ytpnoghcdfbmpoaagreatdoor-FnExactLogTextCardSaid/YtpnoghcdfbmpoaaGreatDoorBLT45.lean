/- Texts of this claim set one behind another by wip/bundle.py: XDecL. -/
import Derived.Test.YtpnoghcdfbmpoaaGreatDoorBLT29
import Derived.Test.YtpnoghcdfbmpoaaGreatDoorBLT21
import Derived.Test.YtpnoghcdfbmpoaaGreatDoorBLT33
import Derived.Test.YtpnoghcdfbmpoaaGreatDoorBLT15
namespace Go.Proofs.YtpnoghcdfbmpoaaGreatDoorX
open Go Go.RowKit Go.Proofs.YtpnoghcdfbmpoaaGreatDoorW.PrintWords Go.Proofs.YtpnoghcdfbmpoaaGreatDoor.PX
set_option linter.unusedVariables false
set_option linter.unusedSimpArgs false
def lineL (w t : List UInt8) : List UInt8 := (w ++ 32 :: t) ++ [10]
def lnP (w x : List UInt8) : Option (List UInt8) := if x.getLast? = some 10 then (if x.dropLast.take (w.length + 1) = w ++ [32] then some (x.dropLast.drop (w.length + 1)) else none) else none
theorem lnP_sound {w x t : List UInt8} (h : lnP w x = some t) : x = lineL w t := by
 unfold lnP at h
 by_cases h1 : x.getLast? = some 10
 · rw [if_pos h1] at h
   by_cases h2 : x.dropLast.take (w.length + 1) = w ++ [32]
   · rw [if_pos h2] at h
     have e := List.take_append_drop (w.length + 1) x.dropLast
     rw [h2, Option.some.inj h] at e
     rw [← last_cut h1, ← e]
     unfold lineL
     rw [List.append_assoc w, List.singleton_append]
   · rw [if_neg h2] at h
     cases h
 · rw [if_neg h1] at h
   cases h
theorem lnP_line (w t : List UInt8) : lnP w (lineL w t) = some t := by
 have h1 : (lineL w t).getLast? = some 10 := List.getLast?_concat
 have h2 : (lineL w t).dropLast = (w ++ [32]) ++ t := by
  unfold lineL
  rw [List.dropLast_concat, List.append_assoc, List.singleton_append]
 have h3 : (w ++ [32]).length = w.length + 1 := by simp
 unfold lnP
 rw [if_pos h1, h2, ← h3, List.take_left', List.drop_left', if_pos rfl]
 · rfl
 · rfl
theorem line_ne (w t : List UInt8) : lineL w t ≠ [] := by unfold lineL; simp
theorem spec_after (y w : List UInt8) (hy : y.length ≤ 1048576) (hw : w.length ≤ 10) : spec_l6After.f (mkB y) (mkB w) = some (if y.take (w.length + 1) = w ++ [32] then (mkB (y.drop (w.length + 1)), true) else ((⟨#[]⟩ : ByteArray), false)) := by
 have e1 : wrap64 (((mkB w).size : Int) + 1) = ((w.length + 1 : Nat) : Int) := by
  rw [size_mkB]
  exact (wrap_in zq7 zq7).trans zq7
 unfold spec_l6After.f
 rw [e1, size_mkB, size_mkB]
 by_cases h1 : (y.length : Int) < ((w.length + 1 : Nat) : Int)
 · rw [if_pos h1, if_neg]
   intro z
   have := congrArg List.length z
   rw [List.length_take, List.length_append, List.length_singleton] at this
   omega
 · rw [if_neg h1, if_pos zq7, if_pos zq7, if_pos zq7, Int.toNat_natCast]
   have e2 : (mkB y).extract 0 (w.length + 1) = mkB (y.take (w.length + 1)) := by
    apply mkB_of
    rw [extract_list, List.drop_zero, Nat.sub_zero]
    rfl
   have e3 : (mkB y).extract (w.length + 1) y.length = mkB (y.drop (w.length + 1)) := by
    apply mkB_of
    rw [extract_list, mkB_list, List.take_of_length_le (by rw [List.length_drop]; omega)]
   have e4 : mkB w ++ (⟨#[32]⟩ : ByteArray) = mkB (w ++ [32]) := mkB_append w [32]
   rw [e2, e3, e4, toList_eq, toList_eq, mkB_list, mkB_list]
   by_cases h2 : y.take (w.length + 1) = w ++ [32]
   · rw [if_pos h2, if_pos h2]
   · rw [if_neg h2, if_neg h2]
theorem ln_line : ∀ (p r : List UInt8), (10 : UInt8) ∉ p → lnL ((p ++ [10]) ++ r) = (p ++ [10]) :: lnL r
 | [], r, _ => by
   show lnL (10 :: r) = [10] :: lnL r
   rw [lnL, if_pos rfl]
 | b :: p, r, h => by
   have hb : b ≠ 10 := fun z => h (by rw [z]; exact List.mem_cons_self)
   have hp : (10 : UInt8) ∉ p := fun z => h (List.mem_cons_of_mem _ z)
   exact lnL_other hb (ln_line p r hp)
theorem ln_len (l : List UInt8) : (lnL l).length ≤ l.length := by
 have h1 := ln_flat l
 have h2 := lnL_ne l
 generalize lnL l = ps at h1 h2
 subst h1
 induction ps with
 | nil => exact Nat.le_refl _
 | cons p ps ih =>
   have := List.length_pos_iff.2 (h2 p List.mem_cons_self)
   have := ih (fun q hq => h2 q (List.mem_cons_of_mem _ hq))
   rw [List.length_cons, List.flatten_cons, List.length_append]
   omega
theorem ln_size (l : List UInt8) : ∀ p ∈ lnL l, p.length ≤ l.length := by
 have h1 := ln_flat l
 intro p hp
 have := List.Sublist.length_le (List.sublist_flatten_of_mem hp)
 rw [h1] at this
 exact this
end Go.Proofs.YtpnoghcdfbmpoaaGreatDoorX
