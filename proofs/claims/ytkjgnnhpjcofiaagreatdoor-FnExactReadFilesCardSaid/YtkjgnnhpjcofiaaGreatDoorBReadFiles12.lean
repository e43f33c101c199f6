/- Texts of this claim set one behind another by wip/bundle.py: XRowK, XBsL. -/
import Derived.Test.YtkjgnnhpjcofiaaGreatDoorBReadFiles9
import Derived.Laws.CopyRow
import Derived.Lib.Hide
namespace Go.Proofs.YtkjgnnhpjcofiaaGreatDoor.PX.X
open Go Go.RowKit Go.Proofs.YtkjgnnhpjcofiaaGreatDoorW.PrintWords
set_option linter.unusedVariables false
set_option linter.unusedSimpArgs false
section
variable {α : Type} {enc : α → List Value} {k : Nat}
def flat (enc : α → List Value) (l : List α) : List Value := l.flatMap enc
theorem flat_cons (x : α) (l : List α) : flat enc (x :: l) = enc x ++ flat enc l := rfl
theorem flat_len (hk : ∀ x, (enc x).length = k) : ∀ l : List α, (flat enc l).length = l.length * k
 | [] => (Nat.zero_mul _).symm
 | x :: l => by rw [flat_cons, List.length_append, hk, flat_len hk l, List.length_cons, Nat.add_mul, Nat.one_mul, Nat.add_comm]
theorem flat_append (a b : List α) : flat enc (a ++ b) = flat enc a ++ flat enc b := List.flatMap_append
theorem flat_drop (hk : ∀ x, (enc x).length = k) (l : List α) (i : Nat) (hi : i ≤ l.length) : flat enc (l.drop i) = (flat enc l).drop (i * k) := by
 have h : (flat enc (l.take i)).length = i * k := by rw [flat_len hk, List.length_take, Nat.min_eq_left hi]
 have e : flat enc l = flat enc (l.take i) ++ flat enc (l.drop i) := by rw [← flat_append, List.take_append_drop]
 rw [e, ← h, List.drop_left]
theorem reps_flat (hk : ∀ x, (enc x).length = k) : ∀ (ps : List α) (cs : List Value), Reps (fun x c => c = enc x) k ps cs → cs = flat enc ps
 | [], cs, h => List.eq_nil_of_length_eq_zero (by have := h.1; simpa using this)
 | p :: ps, cs, h => by
   have h0 := h.2 0 p rfl
   rw [Nat.zero_mul, List.drop_zero] at h0
   have hl := h.1
   rw [List.length_cons, Nat.add_mul, Nat.one_mul] at hl
   have ih := reps_flat hk ps (cs.drop k) ⟨by rw [List.length_drop]; omega, fun j q hj => by
    have := h.2 (j + 1) q (by rw [List.getElem?_cons_succ]; exact hj)
    rw [Nat.add_mul, Nat.one_mul, Nat.add_comm] at this
    rw [List.drop_drop]
    exact this⟩
   rw [flat_cons, ← ih, ← h0, List.take_append_drop]
theorem flat_reps (hk : ∀ x, (enc x).length = k) (ps : List α) : Reps (fun x c => c = enc x) k ps (flat enc ps) := by
 refine ⟨flat_len hk ps, fun j p hj => ?_⟩
 have hlt := (List.getElem?_eq_some_iff.1 hj).1
 rw [← flat_drop hk ps j (Nat.le_of_lt hlt), List.drop_eq_getElem_cons hlt, flat_cons, (List.getElem?_eq_some_iff.1 hj).2, ← hk p, List.take_left]
structure Flat (d : Kd α) (enc : α → List Value) (k : Nat) : Prop where
 sz : d.sz = k
 pos : 0 < k
 len : ∀ x, (enc x).length = k
 one : ∀ x, ∀ u ∈ enc x, u.oneCell' = true
 M : ∀ {w base ok x cs}, d.M w base ok x cs ↔ cs = enc x
 K : ∀ {w x cs}, d.K w x cs ↔ cs = enc x
theorem R_flat {d : Kd α} (F : Flat d enc k) {e : Nat} {w : World} {base : Nat} {ok : Nat → Prop} {v : Value} {xs : List α} (h : d.R e w base ok v xs) : w.ownsRow base e k v xs.length (flat enc xs) := by
 obtain ⟨_, inner, ho, hr⟩ := h
 rw [F.sz] at ho hr
 rw [← reps_flat F.len xs inner (hr.imp_ fun _ _ hp => F.M.1 hp)]
 exact ho
theorem R_of_flat {d : Kd α} (F : Flat d enc k) {e : Nat} {w : World} {base : Nat} {v : Value} {xs : List α} (h : w.ownsRow base e k v xs.length (flat enc xs)) : d.R e w base (fun _ => True) v xs := by
 refine ⟨fun _ _ => trivial, flat enc xs, by rw [F.sz]; exact h, ?_⟩
 rw [F.sz]
 exact (flat_reps F.len xs).imp_ fun _ _ hp => F.M.2 hp
end
section
variable {P : Program}
end
section
variable {α : Type} {enc : α → List Value} {k : Nat}
theorem C_cells {d : Kd α} (F : Flat d enc k) {w : World} {A : Option Addr} {n : Nat} {xs : List α} (h : d.C w A n xs) (i : Nat) (x : α) (hx : xs[i]? = some x) : ∃ ad, A = some ad ∧ ∀ q v, (enc x)[q]? = some v → w.cell? ((ad.add (i * k)).add q) = some v := by
 have hi : i < n := by have := (List.getElem?_eq_some_iff.1 hx).1; have := h.1; omega
 obtain ⟨ad, e0, hc⟩ := h.2.2 (by omega)
 obtain ⟨cs, hl, hK, hcell⟩ := hc i x hx
 refine ⟨ad, e0, fun q v hv => ?_⟩
 have := hcell q v (by rw [F.K.1 hK]; exact hv)
 rw [F.sz] at this
 rw [← this]
 congr 1
 unfold Addr.add
 by_cases h1 : i * k = 0 <;> by_cases h2 : q = 0 <;> simp [h1, h2, Nat.add_assoc]
end
end Go.Proofs.YtkjgnnhpjcofiaaGreatDoor.PX.X

namespace Go.Proofs.YtkjgnnhpjcofiaaGreatDoor.PX.X
set_option linter.unusedVariables false
def bsF (lt : Nat → Bool) : Nat → Nat → Nat → Nat
 | 0, i, _ => i
 | f + 1, i, j => if i < j then (if lt ((i + j) / 2) = true then bsF lt f ((i + j) / 2 + 1) j else bsF lt f i ((i + j) / 2)) else i
theorem bsF_end (lt : Nat → Bool) (f i j : Nat) (h : ¬ i < j) : bsF lt f i j = i := by
 cases f with
 | zero => rfl
 | succ f => exact if_neg h
theorem bsF_up (lt : Nat → Bool) (f i j : Nat) (h : i < j) (hl : lt ((i + j) / 2) = true) : bsF lt (f + 1) i j = bsF lt f ((i + j) / 2 + 1) j := (if_pos h).trans (if_pos hl)
theorem bsF_down (lt : Nat → Bool) (f i j : Nat) (h : i < j) (hl : lt ((i + j) / 2) = false) : bsF lt (f + 1) i j = bsF lt f i ((i + j) / 2) := (if_pos h).trans (if_neg (by rw [hl]; decide))
theorem bsF_cut (lt : Nat → Bool) (m : Nat) : ∀ (f i j : Nat), i ≤ m → m ≤ j → j - i ≤ f → (∀ h, i ≤ h → h < j → (lt h = true ↔ h < m)) → bsF lt f i j = m
 | 0, i, j, hi, hj, hf, _ => by show i = m; omega
 | f + 1, i, j, hi, hj, hf, H => by
   by_cases h : i < j
   · cases hl : lt ((i + j) / 2) with
     | true =>
       have h1 := (H ((i + j) / 2) (by omega) (by omega)).1 hl
       rw [bsF_up lt f i j h hl]
       exact bsF_cut lt m f _ j (by omega) hj (by omega) (fun q h1 h2 => H q (by omega) h2)
     | false =>
       have h1 : ¬ (i + j) / 2 < m := fun z => by
        have := (H ((i + j) / 2) (by omega) (by omega)).2 z
        rw [hl] at this
        cases this
       rw [bsF_down lt f i j h hl]
       exact bsF_cut lt m f i _ hi (by omega) (by omega) (fun q h1 h2 => H q h1 (by omega))
   · rw [bsF_end lt _ i j h]
     omega
section
variable {α : Type}
def bsLt (cf : α → Int) (zs : List α) (h : Nat) : Bool := match zs[h]? with
 | some x => decide (cf x < 0)
 | none => false
def bsAt (cf : α → Int) (zs : List α) : Nat := bsF (bsLt cf zs) zs.length 0 zs.length
def bsHit (cf : α → Int) (zs : List α) : Bool := match zs[bsAt cf zs]? with
 | some x => decide (cf x = 0)
 | none => false
theorem bsLt_at (cf : α → Int) (zs : List α) (h : Nat) (x : α) (hx : zs[h]? = some x) : bsLt cf zs h = decide (cf x < 0) := by
 unfold bsLt
 rw [hx]
theorem bsHit_at (cf : α → Int) (zs : List α) (x : α) (hx : zs[bsAt cf zs]? = some x) : bsHit cf zs = decide (cf x = 0) := by
 unfold bsHit
 rw [hx]
theorem bsHit_none (cf : α → Int) (zs : List α) (hx : zs[bsAt cf zs]? = none) : bsHit cf zs = false := by
 unfold bsHit
 rw [hx]
end
end Go.Proofs.YtkjgnnhpjcofiaaGreatDoor.PX.X
