/- The statement of FnExactNameFault over numbers and lists: the program's NameFault answers what the reference's NameFault answers, for every text whose size the statement's guard lets in. -/
import Derived.Test.YtfemibdffapljaaPFnExactNameFaultx2
namespace Go.Proofs.Ytfemibdffapljaa.Pure
open Go.RowKit Go.Proofs.Ytfemibdffapljaa.PFnExactNameFault Go.Proofs.YtfemibdffapljaaW.PrintWords Go.Proofs.YtfemibdffapljaaW.PrintLast

def nameB (c : Int) : Bool := if c ≥ 97 ∧ c ≤ 122 ∨ c ≥ 48 ∧ c ≤ 57 ∨ c = 46 ∨ c = 95 ∨ c = 45 then true else false

theorem byte_tells (c : Int) : ∃ b, spec_l6NameByte.f c = some b ∧ ∀ {α : Type} (x y : α),
    (if c ≥ 97 then (if c ≤ 122 then x else (if c ≥ 48 then (if c ≤ 57 then x else (if c = 46 then x else (if c = 95 then x else (if c = 45 then x else y)))) else (if c = 46 then x else (if c = 95 then x else (if c = 45 then x else y))))) else (if c ≥ 48 then (if c ≤ 57 then x else (if c = 46 then x else (if c = 95 then x else (if c = 45 then x else y)))) else (if c = 46 then x else (if c = 95 then x else (if c = 45 then x else y))))) = if b = true then x else y := by
  refine ⟨nameB c, ?_, fun x y => ?_⟩
  · unfold spec_l6NameByte.f nameB
    (repeat' split) <;> first | rfl | (exfalso; omega) | (congr 1; rw [Bool.eq_iff_iff]; simp only [beq_iff_eq]; constructor <;> intro _ <;> first | rfl | omega | (exfalso; omega)) | (rw [Option.some.injEq, Bool.eq_iff_iff]; simp; omega)
  · unfold nameB
    (repeat' split) <;> first | rfl | (exfalso; omega) | (exfalso; simp_all; done)

theorem loops (s : ByteArray) (hn : s.size ≤ 1048576) (d : Nat) : ∀ (k : Nat) (i : Int), 0 ≤ i → i ≤ s.size → (s.size : Int) - i = d → d < k →
    ∃ r, spec_NameFault.l0 k s i = some r ∧ impl_NameFault.l0 k s (s.size : Int) i = some r := by
  induction d with
  | zero =>
    intro k i h0 h1 hd hk
    obtain ⟨k, rfl⟩ : ∃ m, k = m + 1 := ⟨k - 1, by omega⟩
    exact ⟨0, by simp only [spec_NameFault.l0]; rw [if_neg (by omega)], by simp only [impl_NameFault.l0]; rw [if_neg (by omega)]⟩
  | succ d ih =>
    intro k i h0 h1 hd hk
    obtain ⟨k, rfl⟩ : ∃ m, k = m + 1 := ⟨k - 1, by omega⟩
    have hlt : i < (s.size : Int) := by omega
    have hw : wrap64 (i + 1) = i + 1 := by unfold wrap64; omega
    obtain ⟨r, hr1, hr2⟩ := ih k (i + 1) (by omega) (by omega) (by omega) (by omega)
    obtain ⟨b, hb, hc⟩ := byte_tells (bt s i)
    refine ⟨if b = true then r else 1, ?_, ?_⟩
    · simp only [spec_NameFault.l0]; rw [if_pos hlt, if_pos h0, hb]; simp only [Option.bind_some]; rw [hw, hr1]; split <;> rfl
    · simp only [impl_NameFault.l0]; rw [if_pos hlt, if_pos h0, if_pos hlt, hc, hw, hr2]; split <;> rfl

theorem joins (s : ByteArray) (hn : s.size ≤ 1048576) (b : Bool) : ∃ r, spec_NameFault.j0 (s.size + 2) s b = some r ∧ impl_NameFault.j0 (s.size + 2) s b = some r := by
  cases b with
  | true => exact ⟨1, by simp [spec_NameFault.j0], by simp [impl_NameFault.j0]⟩
  | false =>
    obtain ⟨r, h1, h2⟩ := loops s hn s.size (s.size + 1) 0 (by omega) (by omega) (by omega) (by omega)
    exact ⟨r, by simp only [spec_NameFault.j0]; rw [if_neg (by decide)]; exact h1, by simp only [impl_NameFault.j0]; rw [if_neg (by decide)]; exact h2⟩

theorem FnExactNameFault : laws_FnExactNameFault.Pure := by
  intro s hs
  refine ⟨s.size + 2, ?_⟩
  unfold laws_FnExactNameFault.f
  split
  · rfl
  have hn : s.size ≤ 1048576 := by omega
  have h : ∃ r, spec_NameFault.f (s.size + 2) s = some r ∧ impl_NameFault.f (s.size + 2) s = some r := by
    unfold spec_NameFault.f impl_NameFault.f
    repeat' split
    all_goals exact joins s hn _
  obtain ⟨r, h1, h2⟩ := h
  rw [h1, h2]
  simp

end Go.Proofs.Ytfemibdffapljaa.Pure
