/- Texts of this claim set one behind another by wip/bundle.py: XSplit. -/
import Derived.Test.YtkjgnnhpjcofiaaGreatDoorBReadFiles7
import Derived.Test.YtkjgnnhpjcofiaaGreatDoorBReadFiles9
import Derived.Lib.Hide
import Derived.Lib.SplitLaws
namespace Go.Proofs.YtkjgnnhpjcofiaaGreatDoor.PX.X
open Go Go.RowKit Go.Proofs.YtkjgnnhpjcofiaaGreatDoorW.PrintWords
set_option linter.unusedVariables false
theorem genSplit_one (s sep : ByteArray) (sv : Nat) (w : World) (h1 : sep.size = 1) (hsv : sv ≤ 1) (hs : s.size < 4294967281) :
 Calls Tryz.prog 191 #[.string s, .string sep, .int .i64 sv, .int .i64 (-1)] w fun e w' =>
  e = .returned (.slice (some ⟨w.heap.size, 0, none⟩) (Lib.splitB sep sv (Lib.countB s sep) s).length (Lib.splitB sep sv (Lib.countB s sep) s).length) ∧
  w' = w.alloc (.cells ((Lib.splitB sep sv (Lib.countB s sep) s).map Value.string).toArray 9) := by
 have hle := Lib.countB_le sep (by omega) s.size s (Nat.le_refl _)
 have hlen := Lib.splitB_all sep (by omega) sv _ s rfl
 obtain ⟨c, hc⟩ := Lib.one_byte sep h1
 have key := Any.strings_genSplit_core Tryz.lays221 (by kernel_rfl) s sep sv (-1) (Lib.countB s sep + 1) w hs (by omega) (by omega)
  (fun x cs _ => by
    refine (hc ▸ Any.strings_Index_one { Tryz.lays221 with } x c _ : Calls Tryz.prog 243 #[.string x, .string sep] (w.alloc (.cells cs 9)) fun e w' => e = .returned (.int .i64 (Lib.indexByte x.data.toList c)) ∧ w' = w.alloc (.cells cs 9)).mono fun e w' ⟨he, hw⟩ => ⟨?_, hw⟩
    rw [he]
    subst hc
    show _ = Ending.returned (Value.int .i64 (Lib.index x.data.toList [c]))
    rw [Lib.index_one])
  (by
    refine (hc ▸ Any.strings_Count_one { Tryz.lays221 with } s c w : Calls Tryz.prog 242 #[.string s, .string sep] w fun e w' => e = .returned (.int .i64 (Lib.countByte s.data.toList c)) ∧ w' = w).mono fun e w' ⟨he, hw⟩ => ⟨?_, hw⟩
    rw [he]
    subst hc
    show _ = Ending.returned (Value.int .i64 ((Lib.count s.data.toList [c] : Nat) : Int))
    rw [Lib.count_one]
    rfl)
  (by decide) (by decide) (by rw [if_pos (by decide)]; omega)
 rw [Nat.add_sub_cancel] at key
 have e2 : Lib.cellsOf (Lib.splitB sep sv (Lib.countB s sep) s) (Lib.countB s sep + 1) = ((Lib.splitB sep sv (Lib.countB s sep) s).map Value.string).toArray := by rw [← hlen]; exact Lib.cellsOf_full _
 rw [e2, ← hlen] at key
 exact key
theorem row_strings (w : World) (l : List ByteArray) (hl : l.length ≤ 9223372036854775807) : Kd.R Kd.string 9 (w.alloc (.cells (l.map Value.string).toArray 9)) w.heap.size (fun _ => True) (.slice (some ⟨w.heap.size, 0, none⟩) l.length l.length) l := by
 refine ⟨fun _ _ => trivial, OwnRow.lit w w.heap.size (ps := l) (inner := l.map Value.string) ⟨?_, fun j p hj => ?_⟩ (Nat.le_refl _) hl⟩
 · rw [List.length_map]
   exact (Nat.mul_one _).symm
 · show ((l.map Value.string).drop (j * 1)).take 1 = [Value.string p]
   rw [Nat.mul_one]
   have hlt := (List.getElem?_eq_some_iff.1 hj).1
   have e : (l.map Value.string)[j]? = some (Value.string p) := by rw [List.getElem?_map, hj]; rfl
   have hlt2 : j < (l.map Value.string).length := by rw [List.length_map]; exact hlt
   rw [List.drop_eq_getElem_cons hlt2, List.take_succ_cons, List.take_zero]
   rw [List.getElem?_eq_getElem hlt2] at e
   rw [Option.some.inj e]
theorem pieces_le (s sep : ByteArray) (sv : Nat) (h1 : sep.size = 1) (hs : s.size < 4294967281) : (Lib.splitB sep sv (Lib.countB s sep) s).length ≤ s.size + 1 := by
 have hle := Lib.countB_le sep (by omega) s.size s (Nat.le_refl _)
 have hlen := Lib.splitB_all sep (by omega) sv _ s rfl
 omega
end Go.Proofs.YtkjgnnhpjcofiaaGreatDoor.PX.X
