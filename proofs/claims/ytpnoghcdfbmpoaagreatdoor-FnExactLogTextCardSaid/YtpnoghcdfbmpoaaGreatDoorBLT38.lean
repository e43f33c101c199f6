/- Texts of this claim set one behind another by wip/bundle.py: XLogP. -/
import Derived.Test.YtpnoghcdfbmpoaaGreatDoorBLT35
import Derived.Test.YtpnoghcdfbmpoaaGreatDoorBLT18
import Derived.Test.YtpnoghcdfbmpoaaGreatDoorBLT34
namespace Go.Proofs.YtpnoghcdfbmpoaaGreatDoor.PX.X
open Go Go.RowKit Go.Lib Go.Proofs.YtpnoghcdfbmpoaaGreatDoorW.PrintWords
set_option linter.unusedVariables false
def cfL (tm : ByteArray → Int) (x y : ByteArray) : Int := if tm y - tm x = 0 then Lib.compareBytes y.data.toList x.data.toList else tm y - tm x
def bef (tm : ByteArray → Int) (x y : ByteArray) : Bool := decide (cfL tm x y < 0)
theorem bef_iff (tm : ByteArray → Int) (x y : ByteArray) : bef tm x y = true ↔ tm y < tm x ∨ (tm x = tm y ∧ lessB y x = true) := by
 unfold bef cfL
 rw [decide_eq_true_eq]
 by_cases h : tm y - tm x = 0
 · rw [if_pos h, YtpnoghcdfbmpoaaGreatDoorX.compare_less]
   constructor
   · intro z
     exact .inr ⟨by omega, z⟩
   · rintro (z | z)
     · omega
     · exact z.2
 · rw [if_neg h]
   constructor
   · intro z
     exact .inl zq7
   · rintro (z | z)
     · omega
     · omega
theorem bef_irrefl (tm : ByteArray → Int) (x : ByteArray) : bef tm x x = false := by
 rw [Bool.eq_false_iff]
 intro h
 rcases (bef_iff tm x x).1 h with h | h
 · omega
 · rw [lessB_irrefl] at h
   exact absurd h.2 zq9
theorem bef_trans (tm : ByteArray → Int) {x y z : ByteArray} (h1 : bef tm x y = true) (h2 : bef tm y z = true) : bef tm x z = true := by
 rw [bef_iff] at h1 h2 ⊢
 rcases h1 with h1 | ⟨h1, g1⟩
 · rcases h2 with h2 | ⟨h2, g2⟩
   · exact .inl zq7
   · exact .inl zq7
 · rcases h2 with h2 | ⟨h2, g2⟩
   · exact .inl zq7
   · exact .inr ⟨by omega, lessB_trans g2 g1⟩
theorem bef_tot (tm : ByteArray → Int) {x y : ByteArray} (h1 : bef tm x y = false) (h2 : bef tm y x = false) : x = y := by
 by_cases he : x = y
 · exact he
 exfalso
 rw [Bool.eq_false_iff] at h1 h2
 by_cases ht : tm x = tm y
 · by_cases hl : lessB y x = true
   · exact h1 ((bef_iff tm x y).2 (.inr ⟨ht, hl⟩))
   · exact h2 ((bef_iff tm y x).2 (.inr ⟨ht.symm, lessB_tot2 hl (fun z => he z.symm)⟩))
 · by_cases hl : tm y < tm x
   · exact h1 ((bef_iff tm x y).2 (.inl hl))
   · exact h2 ((bef_iff tm y x).2 (.inl zq7))
theorem bef_ntrans (tm : ByteArray → Int) {x y z : ByteArray} (h1 : bef tm x y = false) (h2 : bef tm y z = false) : bef tm x z = false := by
 by_cases g1 : bef tm y x = true
 · by_cases g2 : bef tm z y = true
   · rw [Bool.eq_false_iff]
     intro h
     have := bef_trans tm (bef_trans tm h g2) g1
     rw [bef_irrefl] at this
     cases this
   · rw [← bef_tot tm h2 (Bool.eq_false_iff.2 g2)]
     exact h1
 · rw [bef_tot tm h1 (Bool.eq_false_iff.2 g1)]
   exact h2
def atR (tm : ByteArray → Int) (v : Int) (l : List ByteArray) : Nat → Nat
 | 0 => 0
 | n + 1 => if tm (l.getD n ByteArray.empty) < v then atR tm v l n else n + 1
theorem at_le (tm : ByteArray → Int) (v : Int) (l : List ByteArray) : ∀ n, atR tm v l n ≤ n
 | 0 => Nat.le_refl 0
 | n + 1 => by
   unfold atR
   split
   · exact Nat.le_succ_of_le (at_le tm v l n)
   · exact Nat.le_refl _
theorem at_behind (tm : ByteArray → Int) (v : Int) (l : List ByteArray) : ∀ n j, atR tm v l n ≤ j → j < n → tm (l.getD j ByteArray.empty) < v
 | 0, j, _, h => absurd h (Nat.not_lt_zero _)
 | n + 1, j, h1, h2 => by
   unfold atR at h1
   by_cases h : tm (l.getD n ByteArray.empty) < v
   · rw [if_pos h] at h1
     by_cases hj : j = n
     · rw [hj]
       exact h
     · exact at_behind tm v l n j h1 zq7
   · rw [if_neg h] at h1
     omega
theorem at_ahead (tm : ByteArray → Int) (v : Int) (l : List ByteArray) : ∀ n, atR tm v l n = 0 ∨ ∃ m, atR tm v l n = m + 1 ∧ ¬ tm (l.getD m ByteArray.empty) < v
 | 0 => .inl rfl
 | n + 1 => by
   unfold atR
   by_cases h : tm (l.getD n ByteArray.empty) < v
   · rw [if_pos h]
     exact at_ahead tm v l n
   · rw [if_neg h]
     exact .inr ⟨n, rfl, h⟩
def insR (tm : ByteArray → Int) (x : ByteArray) (l : List ByteArray) : List ByteArray := l.take (atR tm (tm x) l l.length) ++ [x] ++ l.drop (atR tm (tm x) l l.length)
theorem ins_perm (tm : ByteArray → Int) (x : ByteArray) (l : List ByteArray) : (insR tm x l).Perm (x :: l) := by
 unfold insR
 rw [List.append_assoc, List.singleton_append]
 have := (List.perm_middle (a := x) (l₁ := l.take (atR tm (tm x) l l.length)) (l₂ := l.drop (atR tm (tm x) l l.length)))
 rwa [List.take_append_drop] at this
theorem ins_pair (tm : ByteArray → Int) (x : ByteArray) (l : List ByteArray) (h : l.Pairwise (fun a b => bef tm a b = true)) (hx : ∀ y ∈ l, lessB x y = true) : (insR tm x l).Pairwise (fun a b => bef tm a b = true) := by
 have hle := at_le tm (tm x) l l.length
 have h1 := at_behind tm (tm x) l l.length
 have h2 := at_ahead tm (tm x) l l.length
 unfold insR
 generalize atR tm (tm x) l l.length = q at hle h1 h2 ⊢
 have hT : ∀ a ∈ l.take q, bef tm a x = true := fun a ha => by
  obtain ⟨j, hj, rfl⟩ := List.getElem_of_mem ha
  rw [List.length_take] at hj
  have hjl : j < l.length := by omega
  rw [List.getElem_take]
  have hm := hx _ (List.getElem_mem hjl)
  have hge : tm x ≤ tm l[j] := by
   rcases h2 with h2 | ⟨m, hm2, hn⟩
   · omega
   · have hml : m < l.length := by omega
     have e1 : l.getD m ByteArray.empty = l[m] := by rw [List.getD_eq_getElem?_getD, List.getElem?_eq_getElem hml, Option.getD_some]
     rw [e1] at hn
     by_cases hjm : j = m
     · subst hjm
       omega
     · have hb := (List.pairwise_iff_getElem.1 h) j m hjl hml zq7
       rcases (bef_iff tm _ _).1 hb with hb | hb
       · omega
       · omega
  rw [bef_iff]
  by_cases e : tm l[j] = tm x
  · exact .inr ⟨e, hm⟩
  · exact .inl zq7
 have hD : ∀ b ∈ l.drop q, bef tm x b = true := fun b hb => by
  obtain ⟨j, hj, rfl⟩ := List.getElem_of_mem hb
  rw [List.length_drop] at hj
  rw [List.getElem_drop]
  have := h1 (q + j) zq7 zq7
  rw [List.getD_eq_getElem?_getD, List.getElem?_eq_getElem (show q + j < l.length by omega), Option.getD_some] at this
  rw [bef_iff]
  exact .inl this
 rw [List.append_assoc, List.singleton_append, List.pairwise_append]
 refine ⟨h.sublist (List.take_sublist q l), List.pairwise_cons.2 ⟨hD, h.sublist (List.drop_sublist q l)⟩, fun a ha b hb => ?_⟩
 rcases List.mem_cons.1 hb with hb | hb
 · rw [hb]
   exact hT a ha
 · exact bef_trans tm (hT a ha) (hD b hb)
def ordR (tm : ByteArray → Int) : List ByteArray → List ByteArray
 | [] => []
 | x :: X => insR tm x (ordR tm X)
theorem ord_perm (tm : ByteArray → Int) : ∀ X : List ByteArray, (ordR tm X).Perm X
 | [] => List.Perm.refl _
 | x :: X => (ins_perm tm x (ordR tm X)).trans ((ord_perm tm X).cons x)
theorem ord_pair (tm : ByteArray → Int) : ∀ X : List ByteArray, X.Pairwise (fun a b => lessB a b = true) → (ordR tm X).Pairwise (fun a b => bef tm a b = true)
 | [], _ => List.Pairwise.nil
 | x :: X, h => by
   have h1 := List.pairwise_cons.1 h
   exact ins_pair tm x _ (ord_pair tm X h1.2) (fun y hy => h1.1 y ((ord_perm tm X).mem_iff.1 hy))
theorem ord_sort (tm : ByteArray → Int) (X : List ByteArray) (h : X.Pairwise (fun a b => lessB a b = true)) : X.mergeSort (fun x y => !bef tm y x) = ordR tm X := by
 refine List.Perm.eq_of_pairwise (le := fun a b => bef tm b a = false) (fun a b _ _ h1 h2 => bef_tot tm h2 h1) ?_ ?_ ((List.mergeSort_perm _ _).trans (ord_perm tm X).symm)
 · refine (List.pairwise_mergeSort (fun a b c x y => ?_) (fun a b => ?_) X).imp (fun h => ?_)
   · rw [Bool.not_eq_true'] at x y ⊢
     exact bef_ntrans tm y x
   · cases h1 : bef tm b a with
     | false => rfl
     | true =>
       cases h2 : bef tm a b with
       | false => rfl
       | true =>
         have := bef_trans tm h1 h2
         rw [bef_irrefl] at this
         cases this
   · rw [Bool.not_eq_true'] at h
     exact h
 · refine (ord_pair tm X h).imp (fun {a b} h => ?_)
   rw [Bool.eq_false_iff]
   intro z
   have := bef_trans tm h z
   rw [bef_irrefl] at this
   cases this
end Go.Proofs.YtpnoghcdfbmpoaaGreatDoor.PX.X
