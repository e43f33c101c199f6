/- Texts of this claim set one behind another by wip/bundle.py: XLcs. -/
import Derived.RowKit3
namespace Go.Proofs.YtcapmfgamdiijaaDoor.PX.X
set_option linter.unusedVariables false
def lcs : List ByteArray → List ByteArray → Int
  | [], _ => 0
  | _ :: _, [] => 0
  | x :: a, y :: b => if x = y then 1 + lcs a b else max (lcs a (y :: b)) (lcs (x :: a) b)
termination_by a b => a.length + b.length
theorem lcs_nil (b : List ByteArray) : lcs [] b = 0 := by rw [lcs]
theorem lcs_nil2 (a : List ByteArray) : lcs a [] = 0 := by cases a <;> rw [lcs]
theorem lcs_eq (x : ByteArray) (a b : List ByteArray) : lcs (x :: a) (x :: b) = 1 + lcs a b := by rw [lcs, if_pos rfl]
theorem lcs_ne {x y : ByteArray} (h : ¬ x = y) (a b : List ByteArray) : lcs (x :: a) (y :: b) = max (lcs a (y :: b)) (lcs (x :: a) b) := by rw [lcs, if_neg h]
theorem lcs_nonneg : ∀ (n : Nat) (a b : List ByteArray), a.length + b.length ≤ n → 0 ≤ lcs a b
  | _, [], b, _ => by rw [lcs_nil]; exact Int.le_refl _
  | _, x :: a, [], _ => by rw [lcs_nil2]; exact Int.le_refl _
  | 0, x :: a, y :: b, h => absurd h (by simp)
  | n + 1, x :: a, y :: b, h => by
    have hl : a.length + b.length + 1 ≤ n := by simp only [List.length_cons] at h; omega
    by_cases e : x = y
    · subst e
      rw [lcs_eq]
      have := lcs_nonneg n a b (by omega)
      omega
    · rw [lcs_ne e]
      have := lcs_nonneg n a (y :: b) (by simp only [List.length_cons]; omega)
      omega
theorem lcs_le : ∀ (n : Nat) (a b : List ByteArray), a.length + b.length ≤ n → lcs a b ≤ a.length
  | _, [], b, _ => by rw [lcs_nil]; simp
  | _, x :: a, [], _ => by rw [lcs_nil2]; omega
  | 0, x :: a, y :: b, h => absurd h (by simp)
  | n + 1, x :: a, y :: b, h => by
    have hl : a.length + b.length + 1 ≤ n := by simp only [List.length_cons] at h; omega
    by_cases e : x = y
    · subst e
      rw [lcs_eq]
      have := lcs_le n a b (by omega)
      simp only [List.length_cons]
      omega
    · rw [lcs_ne e]
      have h1 := lcs_le n a (y :: b) (by simp only [List.length_cons]; omega)
      have h2 := lcs_le n (x :: a) b (by simp only [List.length_cons]; omega)
      simp only [List.length_cons] at *
      omega
/-- One text more on a side: no less, and by one at most. -/
theorem lcs_step : ∀ (n : Nat) (a b : List ByteArray), a.length + b.length ≤ n → (∀ x, lcs a b ≤ lcs (x :: a) b ∧ lcs (x :: a) b ≤ 1 + lcs a b) ∧ (∀ y, lcs a b ≤ lcs a (y :: b) ∧ lcs a (y :: b) ≤ 1 + lcs a b)
  | n, a, b, h => by
    have left : ∀ n (a b : List ByteArray), a.length + b.length ≤ n → (∀ x, lcs a b ≤ lcs (x :: a) b ∧ lcs (x :: a) b ≤ 1 + lcs a b) ∧ (∀ y, lcs a b ≤ lcs a (y :: b) ∧ lcs a (y :: b) ≤ 1 + lcs a b) := by
      intro n
      induction n with
      | zero =>
        intro a b h
        have ha : a = [] := List.eq_nil_of_length_eq_zero (by omega)
        have hb : b = [] := List.eq_nil_of_length_eq_zero (by omega)
        subst ha; subst hb
        refine ⟨fun x => ?_, fun y => ?_⟩
        · rw [lcs_nil, lcs_nil2]; decide
        · rw [lcs_nil, lcs_nil]; decide
      | succ n ih =>
        intro a b h
        refine ⟨fun x => ?_, fun y => ?_⟩
        · cases b with
          | nil => rw [lcs_nil2, lcs_nil2]; decide
          | cons y b =>
            simp only [List.length_cons] at h
            have i1 := ih a b (by omega)
            have g1 := i1.2 y
            have g2 := i1.1 x
            by_cases e : x = y
            · subst e
              rw [lcs_eq]
              exact ⟨g1.2, by omega⟩
            · rw [lcs_ne e]
              refine ⟨by omega, ?_⟩
              have g0 := lcs_nonneg _ a b (Nat.le_refl _)
              omega
        · cases a with
          | nil => rw [lcs_nil, lcs_nil]; decide
          | cons x a =>
            simp only [List.length_cons] at h
            have i1 := ih a b (by omega)
            have g1 := i1.1 x
            have g2 := i1.2 y
            by_cases e : x = y
            · subst e
              rw [lcs_eq]
              exact ⟨g1.2, by omega⟩
            · rw [lcs_ne e]
              exact ⟨by omega, by omega⟩
    exact left n a b h
/-- The number of the lists from places on. -/
def lv (a b : List ByteArray) (i j : Nat) : Int := lcs (a.drop i) (b.drop j)
theorem lv_end (a b : List ByteArray) (i j : Nat) (h : a.length ≤ i ∨ b.length ≤ j) : lv a b i j = 0 := by
  unfold lv
  rcases h with h | h
  · rw [List.drop_eq_nil_of_le h, lcs_nil]
  · rw [List.drop_eq_nil_of_le h, lcs_nil2]
theorem lv_nonneg (a b : List ByteArray) (i j : Nat) : 0 ≤ lv a b i j := lcs_nonneg _ _ _ (Nat.le_refl _)
theorem lv_le (a b : List ByteArray) (i j : Nat) : lv a b i j ≤ a.length := by
  have := lcs_le _ (a.drop i) (b.drop j) (Nat.le_refl _)
  rw [List.length_drop] at this
  unfold lv
  omega
theorem lv_same (a b : List ByteArray) (i j : Nat) (hi : i < a.length) (hj : j < b.length) (h : a[i] = b[j]) : lv a b i j = 1 + lv a b (i + 1) (j + 1) ∧ max (max (lv a b (i + 1) j) (lv a b i (j + 1))) (1 + lv a b (i + 1) (j + 1)) = lv a b i j := by
  have e : lv a b i j = 1 + lv a b (i + 1) (j + 1) := by
    unfold lv
    rw [List.drop_eq_getElem_cons hi, List.drop_eq_getElem_cons hj, h, lcs_eq]
  refine ⟨e, ?_⟩
  have st := lcs_step _ (a.drop (i + 1)) (b.drop (j + 1)) (Nat.le_refl _)
  have s1 := st.2 b[j]
  have s2 := st.1 a[i]
  rw [← List.drop_eq_getElem_cons hj] at s1
  rw [← List.drop_eq_getElem_cons hi] at s2
  rw [e]
  unfold lv
  omega
theorem lv_other (a b : List ByteArray) (i j : Nat) (hi : i < a.length) (hj : j < b.length) (h : ¬ a[i] = b[j]) : lv a b i j = max (lv a b (i + 1) j) (lv a b i (j + 1)) := by
  unfold lv
  rw [List.drop_eq_getElem_cons hi, List.drop_eq_getElem_cons hj, lcs_ne h]
end Go.Proofs.YtcapmfgamdiijaaDoor.PX.X
