/- Texts of this claim set one behind another by wip/bundle.py: XClashLaw. -/
import Derived.Test.YtjibadlbiapcmaaDoorBRP27
import Derived.Test.YtjibadlbiapcmaaDoorBRP25
namespace Go.Proofs.YtjibadlbiapcmaaDoorX
open Go Go.RowKit Go.Proofs.YtjibadlbiapcmaaDoorW.PrintWords Go.Proofs.YtjibadlbiapcmaaDoor.PX
set_option linter.unusedVariables false
theorem zero_steps {step : Nat → Unit → Sum Int Unit} {fin : Unit → Int} (hne : ∀ i r, step i () = .inl r → r ≠ 0) : ∀ (d i : Nat), run step fin d i () = 0 → ∀ j, i ≤ j → j < i + d → step j () = .inr ()
  | 0, i, _, j, h1, h2 => absurd h2 (by omega)
  | d + 1, i, h, j, h1, h2 => by
    cases hs : step i () with
    | inl r =>
      rw [run_out hs] at h
      exact absurd h (hne i r hs)
    | inr s =>
      rw [run_on hs] at h
      by_cases e : j = i
      · subst e; exact hs
      · exact zero_steps hne d (i + 1) h j (by omega) (by omega)
theorem entryStep_ne (l : List IEntry) (i : Nat) (r : Int) (h : entryStep l i () = .inl r) : r ≠ 0 := by
  unfold entryStep at h
  split at h
  · split at h
    · split at h
      · split at h
        · injection h with h; omega
        · cases h
      · injection h with h; omega
    · injection h with h; omega
  · injection h with h; omega
theorem index_chain (l : List IEntry) (h : indexV l = 0) : l.length ≤ 200 ∧ ∀ i, 0 < i → i < l.length → behind (entAt l (i - 1)) (entAt l i) = true := by
  unfold indexV at h
  by_cases h200 : l.length > 200
  · rw [if_pos h200] at h
    exact absurd h (by decide)
  · rw [if_neg h200] at h
    refine ⟨by omega, fun i h0 hi => ?_⟩
    have hs := zero_steps (entryStep_ne l) l.length 0 h i (Nat.zero_le _) (by omega)
    unfold entryStep at hs
    cases hb : behind (entAt l (i - 1)) (entAt l i) with
    | true => rfl
    | false =>
      rw [hb] at hs
      split at hs
      · split at hs
        · split at hs
          · rw [if_pos ⟨h0, rfl⟩] at hs
            cases hs
          · cases hs
        · cases hs
      · cases hs
def leB (a b : ByteArray) : Prop := a = b ∨ X.lessB a b = true
theorem leB_trans {a b c : ByteArray} (h1 : leB a b) (h2 : leB b c) : leB a c := by
  rcases h1 with rfl | h1
  · exact h2
  · rcases h2 with rfl | h2
    · exact .inr h1
    · exact .inr (X.lessB_trans h1 h2)
theorem behind_le {p e : IEntry} (h : behind p e = true) : leB p.f0 e.f0 := by
  unfold behind at h
  by_cases hp : p.f0 = e.f0
  · exact .inl hp
  · rw [if_neg hp] at h
    exact .inr h
theorem entAt_get (l : List IEntry) (i : Nat) (h : i < l.length) : entAt l i = l[i] := by
  unfold entAt
  rw [List.getD_eq_getElem?_getD, List.getElem?_eq_getElem h, Option.getD_some]
theorem clash_rising (l : List IEntry) (h : indexV l = 0) : (X.clashP l).Pairwise leB := by
  have hc := (index_chain l h).2
  have key : ∀ j i, i < j → j < l.length → leB (entAt l i).f0 (entAt l j).f0 := by
    intro j
    induction j with
    | zero => intro i h1; exact absurd h1 (by omega)
    | succ j ih =>
      intro i h1 h2
      have hstep := behind_le (hc (j + 1) (by omega) h2)
      rw [Nat.add_sub_cancel] at hstep
      by_cases e : i = j
      · rw [e]; exact hstep
      · exact leB_trans (ih i (by omega) (by omega)) hstep
  have hp : l.Pairwise fun x y => leB x.f0 y.f0 := by
    rw [List.pairwise_iff_getElem]
    intro i j hi hj hij
    have := key j i hij hj
    rwa [entAt_get l i hi, entAt_get l j hj] at this
  unfold X.clashP
  rw [List.pairwise_map]
  exact hp.filter _
theorem compact_clash (l : List IEntry) (h : indexV l = 0) : X.compactB (X.clashP l) = X.clashS l := by
  have hp := clash_rising l h
  rw [List.pairwise_iff_getElem] at hp
  unfold X.compactB X.clashS
  exact X.compact_fold _ fun m hm => hp m (m + 1) (by omega) hm (by omega)
theorem spec_clashes (l : List IEntry) (hl : l.length ≤ 1048576) : spec_l10Clashes.f l = some (X.clashS l) := by
  unfold spec_l10Clashes.f
  rw [if_pos (by omega)]
theorem impl_clashes (l : List IEntry) (hl : l.length ≤ 1048576) : impl_clashesIn.f l = some (X.compactB (X.clashP l)) := by
  unfold impl_clashesIn.f
  rw [if_pos (by omega)]
end Go.Proofs.YtjibadlbiapcmaaDoorX
