/- Texts of this claim set one behind another by wip/bundle.py: XClashPure. -/
import Derived.Lib.SlicesCompact
import Derived.WalkKit
import Derived.Sort.Walk0
namespace Go.Proofs.YtpnoghcdfbmpoaaGreatDoor.PX.X
open Go
set_option linter.unusedVariables false
def lessB (a b : ByteArray) : Bool := Op.bytesLess a.data.toList b.data.toList
theorem lessB_eq (a b : ByteArray) : lessB a b = decide (a.data.toList < b.data.toList) := Proofs.bytesLess_eq _ _
theorem lessB_irrefl (a : ByteArray) : lessB a a = false := by
  rw [lessB_eq]
  exact decide_eq_false (List.lt_irrefl _)
theorem lessB_trans {a b c : ByteArray} (h1 : lessB a b = true) (h2 : lessB b c = true) : lessB a c = true := by
  rw [lessB_eq, decide_eq_true_eq] at *
  exact List.lt_trans h1 h2
def putL : List ByteArray → ByteArray → List ByteArray
  | [], s => [s]
  | x :: l, s => if lessB x s = true then x :: putL l s else if x = s then x :: l else s :: x :: l
theorem putL_less (s : ByteArray) : ∀ (xs : List ByteArray), (∀ x ∈ xs, lessB x s = true) → putL xs s = xs ++ [s]
  | [], _ => rfl
  | x :: l, h => by
    show (if lessB x s = true then x :: putL l s else if x = s then x :: l else s :: x :: l) = _
    rw [if_pos (h x List.mem_cons_self), putL_less s l (fun y hy => h y (List.mem_cons_of_mem _ hy))]
    rfl
theorem putL_there (s : ByteArray) : ∀ (xs : List ByteArray), (∀ x ∈ xs, lessB x s = true) → putL (xs ++ [s]) s = xs ++ [s]
  | [], _ => by
    show (if lessB s s = true then s :: putL [] s else if s = s then s :: [] else s :: s :: []) = _
    rw [if_neg (by rw [lessB_irrefl]; decide), if_pos rfl]
    rfl
  | x :: l, h => by
    show (if lessB x s = true then x :: putL (l ++ [s]) s else if x = s then x :: (l ++ [s]) else s :: x :: (l ++ [s])) = _
    rw [if_pos (h x List.mem_cons_self), putL_there s l (fun y hy => h y (List.mem_cons_of_mem _ hy))]
    rfl
theorem putL_length (s : ByteArray) : ∀ (xs : List ByteArray), (putL xs s).length ≤ xs.length + 1
  | [] => Nat.le_refl _
  | x :: l => by
    show (if lessB x s = true then x :: putL l s else if x = s then x :: l else s :: x :: l).length ≤ _
    have := putL_length s l
    split
    · simpa using this
    · split <;> simp
abbrev dataL (x : ByteArray) : List UInt8 := x.data.toList
theorem dataL_inj {a b : ByteArray} (h : dataL a = dataL b) : a = b := by
  obtain ⟨⟨a⟩⟩ := a
  obtain ⟨⟨b⟩⟩ := b
  have : a = b := h
  rw [this]
theorem get_map (ps : List ByteArray) (m : Nat) (h : m < ps.length) : (ps.map dataL).toArray[m]! = dataL ps[m] := by
  rw [getElem!_pos _ m (by simpa using h)]
  simp
theorem fold_compact (ps : List ByteArray) (hs : ∀ m (h : m + 1 < ps.length), ps[m] = ps[m + 1] ∨ lessB ps[m] ps[m + 1] = true) :
    ∀ m, m ≤ ps.length → ((ps.take m).foldl putL []).map dataL = Lib.compactUpTo (ps.map dataL).toArray m ∧ ∀ (h : 0 < m) (hm : m - 1 < ps.length), ∃ ys, (ps.take m).foldl putL [] = ys ++ [ps[m - 1]] ∧ ∀ y ∈ ys, lessB y ps[m - 1] = true := by
  intro m
  induction m with
  | zero => intro _; exact ⟨rfl, fun h => absurd h (Nat.lt_irrefl _)⟩
  | succ m ih =>
    intro hm
    obtain ⟨i1, i2⟩ := ih (by omega)
    have hlt : m < ps.length := by omega
    have e1 : (ps.take (m + 1)).foldl putL [] = putL ((ps.take m).foldl putL []) ps[m] := by
      rw [List.take_succ_eq_append_getElem hlt, List.foldl_append]
      rfl
    rw [e1, Lib.compactUpTo_succ, get_map ps m hlt, ← i1]
    simp only [Nat.add_sub_cancel]
    by_cases h0 : m = 0
    · subst h0
      rw [if_pos (Lib.keeps_lt_one _ 0 (by omega))]
      exact ⟨rfl, fun _ _ => ⟨[], rfl, fun y hy => absurd hy List.not_mem_nil⟩⟩
    · obtain ⟨ys, hy1, hy2⟩ := i2 (by omega) (by omega)
      rw [hy1]
      have hstep := hs (m - 1) (by omega)
      have em : m - 1 + 1 = m := by omega
      simp only [em] at hstep
      by_cases heq : ps[m - 1] = ps[m]
      · have hk : Lib.keeps (ps.map dataL).toArray m = false := Lib.keeps_neg (by omega) (by rw [get_map ps m hlt, get_map ps (m - 1) (by omega), heq])
        rw [hk, heq]
        rw [heq] at hy2
        rw [putL_there _ _ hy2]
        exact ⟨by simp, fun _ _ => ⟨ys, rfl, hy2⟩⟩
      · have hless : lessB ps[m - 1] ps[m] = true := by
          rcases hstep with h | h
          · exact absurd h heq
          · exact h
        have hk : Lib.keeps (ps.map dataL).toArray m = true := Lib.keeps_pos (by rw [get_map ps m hlt, get_map ps (m - 1) (by omega)]; exact fun h => heq (dataL_inj h.symm))
        have hall : ∀ x ∈ ys ++ [ps[m - 1]], lessB x ps[m] = true := by
          intro x hx
          rcases List.mem_append.1 hx with h | h
          · exact lessB_trans (hy2 x h) hless
          · rw [List.mem_singleton.1 h]; exact hless
        rw [hk, putL_less _ _ hall]
        exact ⟨by simp, fun _ _ => ⟨_, rfl, hall⟩⟩
def backL (l : List UInt8) : ByteArray := ⟨l.toArray⟩
theorem back_data (l : List ByteArray) : (l.map dataL).map backL = l := by
  rw [List.map_map]
  conv => rhs; rw [← List.map_id l]
  apply List.map_congr_left
  intro x _
  rfl
theorem compact_fold (ps : List ByteArray) (hs : ∀ m (h : m + 1 < ps.length), ps[m] = ps[m + 1] ∨ lessB ps[m] ps[m + 1] = true) : (Lib.compact (ps.map dataL)).map backL = ps.foldl putL [] := by
  have h := (fold_compact ps hs ps.length (Nat.le_refl _)).1
  rw [List.take_length] at h
  unfold Lib.compact
  rw [List.length_map, ← h, back_data]
end Go.Proofs.YtpnoghcdfbmpoaaGreatDoor.PX.X
