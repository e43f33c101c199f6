/- Plain lemmas on the loops that the print shows again and again: a row that is sized, copied, compared, marked, held; each over whatever elements. No program in sight. -/
import Derived.Test.YtfemibdffapljaaDoorWWords
namespace Go.Proofs.YtfemibdffapljaaDoorX
open Go.RowKit Go.Proofs.YtfemibdffapljaaDoorW.PrintWords

theorem wrap_in {i : Int} (h0 : -9223372036854775808 ≤ i) (h1 : i < 9223372036854775808) : wrap64 i = i := by unfold wrap64; omega

theorem toList_eq (b : ByteArray) : b.toList = b.data.toList := by
  have key : ∀ (n : Nat) (i : Nat) (acc : List UInt8), b.size - i = n → i ≤ b.size → ByteArray.toList.loop b i acc = acc.reverse ++ b.data.toList.drop i := by
    intro n
    induction n with
    | zero =>
      intro i acc h hi
      have hi' : i = b.size := by omega
      unfold ByteArray.toList.loop
      rw [if_neg (by omega), List.drop_of_length_le (by rw [Array.length_toList]; show b.size ≤ i; omega), List.append_nil]
    | succ n ih =>
      intro i acc h hi
      have hlt : i < b.size := by omega
      unfold ByteArray.toList.loop
      rw [if_pos hlt, ih (i + 1) _ (by omega) (by omega), List.reverse_cons, List.append_assoc]
      congr 1
      have h2 : i < b.data.toList.length := by rw [Array.length_toList]; exact hlt
      rw [List.drop_eq_getElem_cons h2]
      simp only [List.singleton_append, List.cons.injEq, and_true]
      rw [Array.getElem_toList]
      have h3 : i < b.data.size := hlt
      cases b
      exact getElem!_pos _ i h3
  have := key b.size 0 [] (by omega) (by omega)
  simpa [ByteArray.toList] using this

theorem toList_inj {a b : ByteArray} (h : a.toList = b.toList) : a = b := by
  rw [toList_eq, toList_eq] at h
  cases a; cases b
  simp only at h
  congr 1
  exact Array.ext' h

theorem toList_iff {a b : ByteArray} : a.toList = b.toList ↔ a = b := ⟨toList_inj, fun h => by rw [h]⟩

/-- copied: element by element. -/
theorem to_loop {α β : Type} {F : Nat → List α → List β → Int → Option (List β)} (conv : α → β) (d : α)
    (hF : ∀ k xs ys i, F (k + 1) xs ys i = if i < (xs.length : Int) then (if 0 ≤ i then (if i < (ys.length : Int) then F k xs (ys.set i.toNat (conv (xs.getD i.toNat d))) (wrap64 (i + 1)) else none) else none) else some ys)
    (xs : List α) (hx : xs.length ≤ 140737488351232) : ∀ (n : Nat) (k i : Nat) (ys : List β), ys.length = xs.length → xs.length - i = n → i ≤ xs.length → n < k → F k xs ys (i : Int) = some (ys.take i ++ (xs.drop i).map conv) := by
  intro n
  induction n with
  | zero =>
    intro k i ys hy hn hi hk
    obtain ⟨k, rfl⟩ : ∃ m, k = m + 1 := ⟨k - 1, by omega⟩
    rw [hF, if_neg (by omega), List.drop_of_length_le (by omega), List.map_nil, List.append_nil, List.take_of_length_le (by omega)]
  | succ n ih =>
    intro k i ys hy hn hi hk
    obtain ⟨k, rfl⟩ : ∃ m, k = m + 1 := ⟨k - 1, by omega⟩
    have hlt : i < xs.length := by omega
    rw [hF, if_pos (by omega), if_pos (by omega), if_pos (by omega), wrap_in (by omega) (by omega), Int.toNat_natCast]
    have := ih k (i + 1) (ys.set i (conv (xs.getD i d))) (by rw [List.length_set, hy]) (by omega) (by omega) (by omega)
    rw [show ((i : Int) + 1) = ((i + 1 : Nat) : Int) from rfl, this]
    congr 1
    rw [List.drop_eq_getElem_cons hlt, List.map_cons, List.take_succ_eq_append_getElem (by rw [List.length_set]; omega), List.append_assoc]
    congr 1
    · rw [List.take_set_of_le (Nat.le_refl i)]
    · simp [List.getD_eq_getElem?_getD, hlt]

theorem to_all {α β : Type} {F : Nat → List α → List β → Int → Option (List β)} (conv : α → β) (d : α)
    (hF : ∀ k xs ys i, F (k + 1) xs ys i = if i < (xs.length : Int) then (if 0 ≤ i then (if i < (ys.length : Int) then F k xs (ys.set i.toNat (conv (xs.getD i.toNat d))) (wrap64 (i + 1)) else none) else none) else some ys)
    (xs : List α) (hx : xs.length ≤ 140737488351232) (z : β) (k : Nat) (hk : xs.length < k) : F k xs (List.replicate xs.length z) 0 = some (xs.map conv) := by
  have := to_loop conv d hF xs hx xs.length k 0 (List.replicate xs.length z) (by simp) (by omega) (by omega) hk
  simpa using this

/-- compared: element by element. -/
theorem eq_loop {α : Type} {F : Nat → List α → List α → Int → Option Bool} {E : α → α → Option Bool} (d : α) (hE : ∀ x y, ∃ b, E x y = some b ∧ (b = true ↔ x = y))
    (hF : ∀ k xs ys i, F (k + 1) xs ys i = if i < (xs.length : Int) then (if 0 ≤ i then (if i < (ys.length : Int) then ((E (xs.getD i.toNat d) (ys.getD i.toNat d)).bind fun t => if t = true then F k xs ys (wrap64 (i + 1)) else some false) else none) else none) else some true)
    (xs ys : List α) (hy : xs.length = ys.length) (hx : xs.length ≤ 140737488351232) : ∀ (n : Nat) (k i : Nat), xs.length - i = n → i ≤ xs.length → n < k → ∃ b, F k xs ys (i : Int) = some b ∧ (b = true ↔ xs.drop i = ys.drop i) := by
  intro n
  induction n with
  | zero =>
    intro k i hn hi hk
    obtain ⟨k, rfl⟩ : ∃ m, k = m + 1 := ⟨k - 1, by omega⟩
    refine ⟨true, by rw [hF, if_neg (by omega)], ?_⟩
    rw [List.drop_of_length_le (by omega), List.drop_of_length_le (by omega)]
    simp
  | succ n ih =>
    intro k i hn hi hk
    obtain ⟨k, rfl⟩ : ∃ m, k = m + 1 := ⟨k - 1, by omega⟩
    have hlt : i < xs.length := by omega
    have hlt2 : i < ys.length := by omega
    obtain ⟨b, hb, hbi⟩ := hE (xs.getD i d) (ys.getD i d)
    rw [hF, if_pos (by omega), if_pos (by omega), if_pos (by omega), wrap_in (by omega) (by omega), Int.toNat_natCast, hb]
    simp only [Option.bind_some]
    rw [List.drop_eq_getElem_cons hlt, List.drop_eq_getElem_cons hlt2, List.cons.injEq]
    have e1 : xs.getD i d = xs[i] := by simp [List.getD_eq_getElem?_getD, hlt]
    have e2 : ys.getD i d = ys[i] := by simp [List.getD_eq_getElem?_getD, hlt2]
    rw [e1, e2] at hbi
    cases b with
    | true =>
      obtain ⟨c, hc, hci⟩ := ih k (i + 1) (by omega) (by omega) (by omega)
      refine ⟨c, by rw [if_pos rfl]; exact hc, ?_⟩
      rw [hci]
      exact ⟨fun h => ⟨hbi.1 rfl, h⟩, fun h => h.2⟩
    | false =>
      refine ⟨false, by simp, ?_⟩
      constructor
      · intro h; cases h
      · intro h; exact hbi.2 h.1

theorem eq_all {α : Type} {F : Nat → List α → List α → Int → Option Bool} {E : α → α → Option Bool} (d : α) (hE : ∀ x y, ∃ b, E x y = some b ∧ (b = true ↔ x = y))
    (hF : ∀ k xs ys i, F (k + 1) xs ys i = if i < (xs.length : Int) then (if 0 ≤ i then (if i < (ys.length : Int) then ((E (xs.getD i.toNat d) (ys.getD i.toNat d)).bind fun t => if t = true then F k xs ys (wrap64 (i + 1)) else some false) else none) else none) else some true)
    (xs : List α) (hx : xs.length ≤ 140737488351232) (k : Nat) (hk : xs.length < k) : F k xs xs 0 = some true := by
  obtain ⟨b, hb, hi⟩ := eq_loop d hE hF xs xs rfl hx xs.length k 0 (by omega) (by omega) hk
  rw [show b = true from hi.2 rfl] at hb
  exact hb

/-- sized: what is left is no more than what was, less one an element. -/
theorem sz_loop {α : Type} {F : Nat → List α → Int → Int → Option Int} {Z : α → Int → Option Int} (S Q : α → Prop) (d : α)
    (hZ : ∀ x, S x → ∀ left : Int, 0 ≤ left → left ≤ 1048576 → ∃ r, Z x left = some r ∧ r ≤ left ∧ (0 ≤ r → Q x))
    (hF : ∀ k xs left i, F (k + 1) xs left i = if i < (xs.length : Int) then (if 0 ≤ i then ((Z (xs.getD i.toNat d) left).bind fun t => if t < 0 then some (-1) else F k xs t (wrap64 (i + 1))) else none) else some left)
    (xs : List α) (hx : xs.length ≤ 140737488351232) (hS : ∀ x ∈ xs, S x) : ∀ (n : Nat) (k i : Nat) (left : Int), 0 ≤ left → left ≤ 1048576 → xs.length - i = n → i ≤ xs.length → n < k → ∃ r, F k xs left (i : Int) = some r ∧ r ≤ left ∧ (0 ≤ r → ∀ x ∈ xs.drop i, Q x) := by
  intro n
  induction n with
  | zero =>
    intro k i left h0 h1 hn hi hk
    obtain ⟨k, rfl⟩ : ∃ m, k = m + 1 := ⟨k - 1, by omega⟩
    refine ⟨left, by rw [hF, if_neg (by omega)], by omega, fun _ x hx => ?_⟩
    rw [List.drop_of_length_le (by omega)] at hx
    simp at hx
  | succ n ih =>
    intro k i left h0 h1 hn hi hk
    obtain ⟨k, rfl⟩ : ∃ m, k = m + 1 := ⟨k - 1, by omega⟩
    have hlt : i < xs.length := by omega
    have e1 : xs.getD i d = xs[i] := by simp [List.getD_eq_getElem?_getD, hlt]
    obtain ⟨r, hr, hle, hq⟩ := hZ (xs.getD i d) (by rw [e1]; exact hS _ (List.getElem_mem hlt)) left h0 h1
    rw [hF, if_pos (by omega), if_pos (by omega), wrap_in (by omega) (by omega), Int.toNat_natCast, hr]
    simp only [Option.bind_some]
    by_cases hneg : r < 0
    · exact ⟨-1, by rw [if_pos hneg], by omega, fun h => by omega⟩
    · obtain ⟨r', hr', hle', hq'⟩ := ih k (i + 1) r (by omega) (by omega) (by omega) (by omega) (by omega)
      refine ⟨r', by rw [if_neg hneg]; exact hr', by omega, fun h x hx => ?_⟩
      rw [List.drop_eq_getElem_cons hlt] at hx
      rcases List.mem_cons.1 hx with rfl | hx
      · rw [← e1]; exact hq (by omega)
      · exact hq' h x hx

theorem sz_all {α : Type} {F : Nat → List α → Int → Int → Option Int} {Z : α → Int → Option Int} (S Q : α → Prop) (d : α)
    (hZ : ∀ x, S x → ∀ left : Int, 0 ≤ left → left ≤ 1048576 → ∃ r, Z x left = some r ∧ r ≤ left ∧ (0 ≤ r → Q x))
    (hF : ∀ k xs left i, F (k + 1) xs left i = if i < (xs.length : Int) then (if 0 ≤ i then ((Z (xs.getD i.toNat d) left).bind fun t => if t < 0 then some (-1) else F k xs t (wrap64 (i + 1))) else none) else some left)
    (xs : List α) (hx : xs.length ≤ 140737488351232) (hS : ∀ x ∈ xs, S x) (left : Int) (h0 : 0 ≤ left) (h1 : left ≤ 1048576) (k : Nat) (hk : xs.length < k) : ∃ r, F k xs left 0 = some r ∧ r ≤ left ∧ (0 ≤ r → ∀ x ∈ xs, Q x) :=
  sz_loop S Q d hZ hF xs hx hS xs.length k 0 left h0 h1 (by omega) (by omega) hk

end Go.Proofs.YtfemibdffapljaaDoorX
