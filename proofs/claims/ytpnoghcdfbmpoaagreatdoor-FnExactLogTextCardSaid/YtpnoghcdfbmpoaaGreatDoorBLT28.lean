/- Texts of this claim set one behind another by wip/bundle.py: XClashRow. -/
import Derived.Test.YtpnoghcdfbmpoaaGreatDoorBLT8
import Derived.Test.YtpnoghcdfbmpoaaGreatDoorBLT10
import Derived.Test.YtpnoghcdfbmpoaaGreatDoorBLT4
import Derived.Lib.Hide
import Derived.Lib.OwnBridge
import Derived.Shelf.Slices.CompactS
namespace Go.Proofs.YtpnoghcdfbmpoaaGreatDoor.PX.X
open Go Go.RowKit Go.Proofs.YtpnoghcdfbmpoaaGreatDoorW.PrintWords
set_option linter.unusedVariables false
set_option linter.unusedSimpArgs false
theorem R_str_own {w : World} {base e : Nat} {ok : Nat → Prop} {v : Value} {l : List ByteArray} (h : Kd.R Kd.string e w base ok v l) : w.ownsRow base e 1 v l.length (l.map Value.string) := by
 obtain ⟨_, inner, ho, hr⟩ := h
 have e : inner = l.map Value.string := by
  have h1 : inner.length = l.length := by have := hr.1; simpa [Kd.string, Kd.scalar] using this
  apply List.ext_getElem?
  intro j
  by_cases hj : j < l.length
  · have h2 := hr.2 j l[j] (List.getElem?_eq_getElem hj)
    have h3 : (inner.drop (j * 1)).take 1 = [Value.string l[j]] := h2
    rw [Nat.mul_one, List.drop_eq_getElem_cons (by omega), List.take_succ_cons, List.take_zero] at h3
    rw [List.getElem?_eq_getElem (by omega), List.getElem?_map, List.getElem?_eq_getElem hj]
    injection h3 with h3
    rw [h3]
    rfl
  · rw [List.getElem?_eq_none (by omega), List.getElem?_eq_none (by rw [List.length_map]; omega)]
 rw [← e]
 exact ho
theorem R_str_of {w : World} {base e : Nat} {v : Value} {l : List ByteArray} (h : w.ownsRow base e 1 v l.length (l.map Value.string)) : Kd.R Kd.string e w base (fun _ => True) v l := by
 refine ⟨fun _ _ => trivial, l.map Value.string, h, ?_, fun j p hj => ?_⟩
 · rw [List.length_map]
   exact (Nat.mul_one _).symm
 · show ((l.map Value.string).drop (j * 1)).take 1 = [Value.string p]
   rw [Nat.mul_one]
   have hlt := (List.getElem?_eq_some_iff.1 hj).1
   have e : (l.map Value.string)[j]? = some (Value.string p) := by rw [List.getElem?_map, hj]; rfl
   have hlt2 : j < (l.map Value.string).length := by rw [List.length_map]; exact hlt
   rw [List.drop_eq_getElem_cons hlt2, List.take_succ_cons, List.take_zero]
   rw [List.getElem?_eq_getElem hlt2] at e
   rw [Option.some.inj e]
theorem back_enc (zs : List (List UInt8)) : (zs.map backL).map Value.string = zs.map Proofs.encStr := by
 rw [List.map_map]
 rfl
end Go.Proofs.YtpnoghcdfbmpoaaGreatDoor.PX.X
