/- Texts of this claim set one behind another by wip/bundle.py: XCmp. -/
import Derived.Test.YtkjgnnhpjcofiaaGreatDoorBReadFiles9
import Derived.Test.YtkjgnnhpjcofiaaGreatDoorBReadFiles12
import Derived.Test.YtkjgnnhpjcofiaaGreatDoorBReadFiles3
import Derived.Shelf.Small.Strs
namespace Go.Proofs.YtkjgnnhpjcofiaaGreatDoorX
open Go Go.RowKit Go.Proofs.YtkjgnnhpjcofiaaGreatDoorW.PrintWords
open Go.Proofs.YtkjgnnhpjcofiaaGreatDoor.PX.X (lessB lessB_irrefl lessB_trans lessB_eq bsF bsF_cut bsAt bsHit bsLt bsLt_at bsHit_at bsHit_none)
set_option linter.unusedVariables false
theorem compare_zero : ∀ a b : List UInt8, Lib.compareBytes a b = 0 ↔ a = b
 | [], [] => by simp [Lib.compareBytes]
 | [], _ :: _ => by simp [Lib.compareBytes]
 | _ :: _, [] => by simp [Lib.compareBytes]
 | a :: x, b :: y => by
   unfold Lib.compareBytes
   by_cases h1 : a < b
   · rw [if_pos h1]
     simp only [List.cons.injEq]
     exact ⟨fun z => by omega, fun z => by rw [z.1] at h1; exact absurd h1 (UInt8.lt_irrefl _)⟩
   · rw [if_neg h1]
     by_cases h2 : b < a
     · rw [if_pos h2]
       simp only [List.cons.injEq]
       exact ⟨fun z => by omega, fun z => by rw [z.1] at h2; exact absurd h2 (UInt8.lt_irrefl _)⟩
     · rw [if_neg h2, compare_zero x y]
       have : a = b := UInt8.le_antisymm (UInt8.not_lt.1 h2) (UInt8.not_lt.1 h1)
       simp [this]
theorem compare_less : ∀ a b : List UInt8, Lib.compareBytes a b < 0 ↔ Op.bytesLess a b = true
 | [], [] => by simp [Lib.compareBytes, Op.bytesLess]
 | [], _ :: _ => by simp [Lib.compareBytes, Op.bytesLess]
 | _ :: _, [] => by simp [Lib.compareBytes, Op.bytesLess]
 | a :: x, b :: y => by
   unfold Lib.compareBytes Op.bytesLess
   by_cases h1 : a < b
   · rw [if_pos h1, decide_eq_true h1]
     simp
   · rw [if_neg h1, decide_eq_false h1, Bool.false_or]
     by_cases h2 : b < a
     · rw [if_pos h2]
       have : ¬ a = b := fun z => by rw [z] at h2; exact absurd h2 (UInt8.lt_irrefl _)
       simp [this]
     · rw [if_neg h2, compare_less x y]
       have : a = b := UInt8.le_antisymm (UInt8.not_lt.1 h2) (UInt8.not_lt.1 h1)
       simp [this]
def cnt {α : Type} (p : α → Bool) : List α → Nat
 | [] => 0
 | x :: l => if p x = true then cnt p l + 1 else 0
theorem cnt_le {α : Type} (p : α → Bool) : ∀ l : List α, cnt p l ≤ l.length
 | [] => Nat.le_refl _
 | x :: l => by
   unfold cnt
   split
   · have := cnt_le p l
     rw [List.length_cons]
     omega
   · exact Nat.zero_le _
theorem cnt_all {α : Type} (p : α → Bool) : ∀ (l : List α) (h : Nat) (x : α), h < cnt p l → l[h]? = some x → p x = true
 | [], h, x, hh, _ => absurd hh (Nat.not_lt_zero _)
 | y :: l, h, x, hh, hx => by
   unfold cnt at hh
   by_cases hp : p y = true
   · rw [if_pos hp] at hh
     cases h with
     | zero =>
       have : y = x := Option.some.inj hx
       rw [← this]
       exact hp
     | succ h => exact cnt_all p l h x (by omega) (by rw [List.getElem?_cons_succ] at hx; exact hx)
   · rw [if_neg hp] at hh
     exact absurd hh (Nat.not_lt_zero _)
theorem cnt_stop {α : Type} (p : α → Bool) : ∀ (l : List α) (x : α), l[cnt p l]? = some x → p x = false
 | [], x, hx => by cases hx
 | y :: l, x, hx => by
   unfold cnt at hx
   by_cases hp : p y = true
   · rw [if_pos hp, List.getElem?_cons_succ] at hx
     exact cnt_stop p l x hx
   · rw [if_neg hp] at hx
     have : y = x := Option.some.inj hx
     rw [← this]
     exact Bool.eq_false_iff.mpr hp
section
variable {α : Type} (key : α → ByteArray)
def rising (l : List α) : Prop := ∀ (i j : Nat) (x y : α), i < j → l[i]? = some x → l[j]? = some y → lessB (key x) (key y) = true
def cmpK (s : ByteArray) (x : α) : Int := Lib.compareBytes (key x).data.toList s.data.toList
def lessK (s : ByteArray) (x : α) : Bool := lessB (key x) s
theorem cut_rising {l : List α} (hr : rising key l) (s : ByteArray) (h : Nat) (x : α) (hx : l[h]? = some x) : lessK key s x = true ↔ h < cnt (lessK key s) l := by
 constructor
 · intro hp
   rcases Nat.lt_or_ge h (cnt (lessK key s) l) with h1 | h1
   · exact h1
   · have hlt : cnt (lessK key s) l < l.length := Nat.lt_of_le_of_lt h1 (List.getElem?_eq_some_iff.1 hx).1
     have hy := List.getElem?_eq_getElem hlt
     have hn := cnt_stop _ l _ hy
     rcases Nat.lt_or_ge (cnt (lessK key s) l) h with h2 | h2
     · have h3 := hr _ _ _ _ h2 hy hx
       have h4 : lessK key s (l[cnt (lessK key s) l]) = true := lessB_trans h3 hp
       rw [hn] at h4
       cases h4
     · have e : h = cnt (lessK key s) l := by omega
       subst e
       rw [hy] at hx
       rw [← Option.some.inj hx, hn] at hp
       cases hp
 · intro h1
   exact cnt_all _ l h x h1 hx
theorem bs_rising {l : List α} (hr : rising key l) (s : ByteArray) : bsAt (cmpK key s) l = cnt (lessK key s) l := by
 unfold bsAt
 refine bsF_cut _ _ _ _ _ (Nat.zero_le _) (cnt_le _ l) (by omega) (fun h _ hh => ?_)
 have hx := List.getElem?_eq_getElem hh
 rw [bsLt_at _ l h _ hx, decide_eq_true_eq, ← cut_rising key hr s h _ hx]
 exact compare_less _ _
theorem hit_rising {l : List α} (hr : rising key l) (s : ByteArray) (x : α) (hx : l[cnt (lessK key s) l]? = some x) : bsHit (cmpK key s) l = decide (key x = s) := by
 have h := bsHit_at (cmpK key s) l x (by rw [bs_rising key hr s]; exact hx)
 rw [h]
 apply decide_eq_decide.mpr
 refine (compare_zero _ _).trans ?_
 rw [← toList_eq, ← toList_eq]
 exact toList_iff
theorem hit_none {l : List α} (hr : rising key l) (s : ByteArray) (hx : l[cnt (lessK key s) l]? = none) : bsHit (cmpK key s) l = false :=
 bsHit_none (cmpK key s) l (by rw [bs_rising key hr s]; exact hx)
theorem key_at {l : List α} (hr : rising key l) (s : ByteArray) (h : Nat) (x : α) (hx : l[h]? = some x) (he : key x = s) : h = cnt (lessK key s) l := by
 have h1 : ¬ h < cnt (lessK key s) l := fun z => by
  have := (cut_rising key hr s h x hx).2 z
  unfold lessK at this
  rw [he, lessB_irrefl] at this
  cases this
 rcases Nat.lt_or_ge (cnt (lessK key s) l) h with h2 | h2
 · have hlt : cnt (lessK key s) l < l.length := Nat.lt_trans h2 (List.getElem?_eq_some_iff.1 hx).1
   have hy := List.getElem?_eq_getElem hlt
   have h3 := hr _ _ _ _ h2 hy hx
   rw [he] at h3
   have := (cut_rising key hr s _ _ hy).1 h3
   omega
 · omega
end
end Go.Proofs.YtkjgnnhpjcofiaaGreatDoorX
