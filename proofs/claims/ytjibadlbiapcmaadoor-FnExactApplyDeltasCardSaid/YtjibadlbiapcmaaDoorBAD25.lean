/- Texts of this claim set one behind another by wip/bundle.py: XClashRow. -/
import Derived.Test.YtjibadlbiapcmaaDoorBAD6
import Derived.Test.YtjibadlbiapcmaaDoorBAD7
import Derived.Test.YtjibadlbiapcmaaDoorBAD1
import Derived.Lib.Hide
import Derived.Lib.OwnBridge
import Derived.Shelf.Slices.CompactS
namespace Go.Proofs.YtjibadlbiapcmaaDoor.PX.X
open Go Go.RowKit Go.Proofs.YtjibadlbiapcmaaDoorW.PrintWords
set_option linter.unusedVariables false
set_option linter.unusedSimpArgs false
theorem R_str_own {w : World} {base e : Nat} {ok : Nat → Prop} {v : Value} {l : List ByteArray} (h : Kd.R Kd.string e w base ok v l) : w.ownsRow base e 1 v l.length (l.map Value.string) := by
  obtain ⟨_, inner, ho, hr⟩ := h
  have e : inner = l.map Value.string := by
    have h1 : inner.length = l.length := by have := hr.1; simpa [Kd.string, Kd.scalar] using this
    apply List.ext_getElem?
    intro j
    by_cases hj : j < l.length
    · have h2 := hr.2 j l[j] (List.getElem?_eq_getElem hj)
      have h3 : (inner.drop (j * 1)).take 1 = [Value.string l[j]] := h2
      rw [Nat.mul_one, List.drop_eq_getElem_cons (by omega), List.take_succ_cons, List.take_zero] at h3
      rw [List.getElem?_eq_getElem (by omega), List.getElem?_map, List.getElem?_eq_getElem hj]
      injection h3 with h3
      rw [h3]
      rfl
    · rw [List.getElem?_eq_none (by omega), List.getElem?_eq_none (by rw [List.length_map]; omega)]
  rw [← e]
  exact ho
theorem R_str_of {w : World} {base e : Nat} {v : Value} {l : List ByteArray} (h : w.ownsRow base e 1 v l.length (l.map Value.string)) : Kd.R Kd.string e w base (fun _ => True) v l := by
  refine ⟨fun _ _ => trivial, l.map Value.string, h, ?_, fun j p hj => ?_⟩
  · rw [List.length_map]
    exact (Nat.mul_one _).symm
  · show ((l.map Value.string).drop (j * 1)).take 1 = [Value.string p]
    rw [Nat.mul_one]
    have hlt := (List.getElem?_eq_some_iff.1 hj).1
    have e : (l.map Value.string)[j]? = some (Value.string p) := by rw [List.getElem?_map, hj]; rfl
    have hlt2 : j < (l.map Value.string).length := by rw [List.length_map]; exact hlt
    rw [List.drop_eq_getElem_cons hlt2, List.take_succ_cons, List.take_zero]
    rw [List.getElem?_eq_getElem hlt2] at e
    rw [Option.some.inj e]
theorem compact_le (zs : List (List UInt8)) : (Lib.compact zs).length ≤ zs.length := by
  unfold Lib.compact Lib.compactUpTo
  rw [List.length_map]
  have := List.length_filter_le (Lib.keeps zs.toArray) (List.range zs.length)
  simpa using this
theorem back_enc (zs : List (List UInt8)) : (zs.map backL).map Value.string = zs.map Proofs.encStr := by
  rw [List.map_map]
  rfl
def compactB (l : List ByteArray) : List ByteArray := (Lib.compact (l.map dataL)).map backL
open Go.Proofs in
theorem compact_own (w : World) (base : Nat) (v : Value) (l : List ByteArray) (hR : Kd.R Kd.string 9 w base (fun _ => True) v l) (hl : l.length ≤ 9223372036854775807) :
    Calls Tryd.prog 107 #[v] w fun e w' => ∃ v', e = .returned v' ∧ Kd.R Kd.string 9 w' base (fun _ => True) v' (compactB l) ∧ ∀ w0 B, Below B w0 w → B ≤ base → Below B w0 w' := by
  by_cases hv : v = .slice none 0 0
  · subst hv
    have h0 : l = [] := by
      have := (R_str_own hR).2
      rcases this with ⟨_, h⟩ | ⟨g, cap, cur, h, _⟩
      · exact List.eq_nil_of_length_eq_zero h
      · cases h
    subst h0
    refine (Any.slices_Compact_string_empty Tryd.lays194 none 0 w).mono ?_
    rintro e w' ⟨rfl, rfl⟩
    exact ⟨_, rfl, hR, fun _ _ h _ => h⟩
  · have ho := R_str_own hR
    rw [← Lib.map_encStr] at ho
    obtain ⟨g, cap, rfl, hbg, hgl, hnc, hcm, hlen, hH⟩ := Lib.holds_of_ownsRow (enc := encStr) ho hv
    have hlen2 : (l.map fun x => x.data.toList).length = l.length := List.length_map _
    have hc := Any.slices_Compact_string Tryd.lays194 g 0 cap (l.map fun x => x.data.toList) w hH (by omega) (by omega)
    rw [hlen2] at hc
    refine hc.mono ?_
    rintro e w' ⟨rfl, q, rfl⟩
    have hle := compact_le (l.map fun x => x.data.toList)
    rw [hlen2] at hle
    refine ⟨_, rfl, ?_, fun w0 B h hB => Lib.below_putRow h (Nat.le_trans hB hbg)⟩
    have hz := Lib.ownsRow_putRow (q := q) (ys := Lib.compact (l.map fun x => x.data.toList) ++ List.replicate (l.length - (Lib.compact (l.map fun x => x.data.toList)).length) []) (k := (Lib.compact (l.map fun x => x.data.toList)).length) ho (by simp; omega) hle
    rw [List.take_left, ← back_enc] at hz
    have hcl : (compactB l).length = (Lib.compact (l.map fun x => x.data.toList)).length := by unfold compactB; rw [List.length_map]
    refine R_str_of ?_
    rw [hcl]
    exact hz
end Go.Proofs.YtjibadlbiapcmaaDoor.PX.X
