/- One lemma for every loop that the print shows: a loop over places, with early exits and a state, comes to what its steps come to. And how rounds are reckoned together. No program in sight. -/
import Derived.Test.YtfemibdffapljaaDoorXLoops
namespace Go.Proofs.YtfemibdffapljaaDoorX
open Go.RowKit Go.Proofs.YtfemibdffapljaaDoorW.PrintWords

/-- d rounds from place i on. -/
def run {σ β : Type} (step : Nat → σ → Sum β σ) (fin : σ → β) : Nat → Nat → σ → β
  | 0, _, s => fin s
  | d + 1, i, s => match step i s with
    | .inl r => r
    | .inr s' => run step fin d (i + 1) s'

theorem run_zero {σ β : Type} (step : Nat → σ → Sum β σ) (fin : σ → β) (i : Nat) (s : σ) : run step fin 0 i s = fin s := rfl
theorem run_out {σ β : Type} {step : Nat → σ → Sum β σ} {fin : σ → β} {d i : Nat} {s : σ} {r : β} (h : step i s = .inl r) : run step fin (d + 1) i s = r := by rw [run, h]
theorem run_on {σ β : Type} {step : Nat → σ → Sum β σ} {fin : σ → β} {d i : Nat} {s s' : σ} (h : step i s = .inr s') : run step fin (d + 1) i s = run step fin d (i + 1) s' := by rw [run, h]

theorem loop {σ β : Type} {F : Nat → Nat → σ → Option β} {step : Nat → σ → Sum β σ} {fin : σ → β} (n K : Nat) (I : Nat → σ → Prop)
    (hI : ∀ i s s', i < n → I i s → step i s = .inr s' → I (i + 1) s')
    (hb : ∀ k i s, K ≤ k → i < n → I i s → F (k + 1) i s = match step i s with | .inl r => some r | .inr s' => F k (i + 1) s')
    (hf : ∀ k s, K ≤ k → I n s → F (k + 1) n s = some (fin s)) :
    ∀ (d i : Nat) (s : σ), n - i = d → i ≤ n → I i s → ∀ k, K + d < k → F k i s = some (run step fin d i s) := by
  intro d
  induction d with
  | zero =>
    intro i s hd hi hs k hk
    obtain ⟨k, rfl⟩ : ∃ m, k = m + 1 := ⟨k - 1, by omega⟩
    have e : i = n := by omega
    subst e
    exact hf k s (by omega) hs
  | succ d ih =>
    intro i s hd hi hs k hk
    obtain ⟨k, rfl⟩ : ∃ m, k = m + 1 := ⟨k - 1, by omega⟩
    rw [hb k i s (by omega) (by omega) hs, run]
    cases h : step i s with
    | inl r => rfl
    | inr s' => exact ih (i + 1) s' (by omega) (by omega) (hI i s s' (by omega) hs h) k (by omega)

/-- .. from the first place on. -/
theorem loop0 {σ β : Type} {F : Nat → Nat → σ → Option β} {step : Nat → σ → Sum β σ} {fin : σ → β} (n K : Nat) (I : Nat → σ → Prop)
    (hI : ∀ i s s', i < n → I i s → step i s = .inr s' → I (i + 1) s')
    (hb : ∀ k i s, K ≤ k → i < n → I i s → F (k + 1) i s = match step i s with | .inl r => some r | .inr s' => F k (i + 1) s')
    (hf : ∀ k s, K ≤ k → I n s → F (k + 1) n s = some (fin s)) (s : σ) (hs : I 0 s) (k : Nat) (hk : K + n < k) : F k 0 s = some (run step fin n 0 s) :=
  loop n K I hI hb hf n 0 s (by omega) (by omega) hs k hk

/-- Two runs whose steps and ends agree. -/
theorem run_same {σ β : Type} {step step' : Nat → σ → Sum β σ} {fin fin' : σ → β} (n : Nat) (I : Nat → σ → Prop) (hI : ∀ i s s', i < n → I i s → step i s = .inr s' → I (i + 1) s')
    (hs : ∀ i s, i < n → I i s → step i s = step' i s) (hf : ∀ s, I n s → fin s = fin' s) : ∀ (d i : Nat) (s : σ), i + d = n → I i s → run step fin d i s = run step' fin' d i s := by
  intro d
  induction d with
  | zero =>
    intro i s hi h
    have e : i = n := by omega
    subst e
    exact hf s h
  | succ d ih =>
    intro i s hi h
    rw [run, run, ← hs i s (by omega) h]
    cases h' : step i s with
    | inl r => rfl
    | inr s' => exact ih (i + 1) s' (by omega) (hI i s s' (by omega) h h')

/-- A run that nothing changes but for its exits. -/
theorem run_all {β : Type} {step : Nat → Unit → Sum β Unit} {fin : Unit → β} {d i : Nat} (h : ∀ j, i ≤ j → j < i + d → step j () = .inr ()) : run step fin d i () = fin () := by
  induction d generalizing i with
  | zero => rfl
  | succ d ih => rw [run_on (h i (by omega) (by omega))]; exact ih (fun j h1 h2 => h j (by omega) (by omega))

/-- From some number of rounds on. -/
theorem Ev.unique {α : Type} {g : Nat → Option α} {r s : α} (h : Ev g r) (h' : Ev g s) : r = s := by
  obtain ⟨K, hK⟩ := h
  obtain ⟨K', hK'⟩ := h'
  exact Option.some.inj ((hK (max K K') (Nat.le_max_left _ _)).symm.trans (hK' (max K K') (Nat.le_max_right _ _)))
theorem Ev.get {α : Type} {g : Nat → Option α} {r : α} (h : Ev g r) : ∃ k, g k = some r := by
  obtain ⟨K, hK⟩ := h
  exact ⟨K, hK K (Nat.le_refl _)⟩
theorem Ev.of_eq {α : Type} {g g' : Nat → Option α} {r : α} (h : Ev g r) (he : ∀ k, g' k = g k) : Ev g' r := by
  obtain ⟨K, hK⟩ := h
  exact ⟨K, fun k hk => (he k).trans (hK k hk)⟩
/-- For all elements of a list together. -/
theorem Ev.all {α β : Type} {g : α → Nat → Option β} {r : α → β} : ∀ {l : List α}, (∀ x ∈ l, Ev (g x) (r x)) → ∃ K, ∀ x ∈ l, ∀ k, K ≤ k → g x k = some (r x)
  | [], _ => ⟨0, fun x hx => by simp at hx⟩
  | x :: l, h => by
    obtain ⟨K, hK⟩ := h x (List.mem_cons_self)
    obtain ⟨K', hK'⟩ := Ev.all (fun y hy => h y (List.mem_cons_of_mem _ hy))
    refine ⟨max K K', fun y hy k hk => ?_⟩
    rcases List.mem_cons.1 hy with rfl | hy
    · exact hK k (by omega)
    · exact hK' y hy k (by omega)

theorem getD_mem {α : Type} {l : List α} {i : Nat} (d : α) (h : i < l.length) : l.getD i d ∈ l := by
  have : l.getD i d = l[i] := by simp [List.getD_eq_getElem?_getD, h]
  rw [this]
  exact List.getElem_mem h
theorem rdOf_nat (xs : List ByteArray) (i : Nat) : rdOf ByteArray.empty xs (i : Int) = xs.getD i ByteArray.empty := by unfold rdOf; rw [Int.toNat_natCast]
theorem rd_nat (xs : List Int) (i : Nat) : rd xs (i : Int) = xs.getD i 0 := by unfold rd; rw [Int.toNat_natCast]
theorem bt_nat (s : ByteArray) (i : Nat) : bt s (i : Int) = ((s.data.toList.getD i 0).toNat : Int) := by
  unfold bt
  rw [Int.toNat_natCast]
  by_cases h : i < s.size
  · rw [dif_pos h]
    have h2 : i < s.data.toList.length := by rw [Array.length_toList]; exact h
    simp only [List.getD_eq_getElem?_getD, List.getElem?_eq_getElem h2, Option.getD_some]
    rfl
  · rw [dif_neg h]
    have h2 : ¬ i < s.data.toList.length := by rw [Array.length_toList]; exact h
    simp [List.getD_eq_getElem?_getD, List.getElem?_eq_none (Nat.le_of_not_lt h2)]
theorem size_list (s : ByteArray) : s.size = s.data.toList.length := by rw [Array.length_toList]; rfl
end Go.Proofs.YtfemibdffapljaaDoorX
