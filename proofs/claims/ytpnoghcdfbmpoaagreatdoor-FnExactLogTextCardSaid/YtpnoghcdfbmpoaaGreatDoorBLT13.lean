/- Texts of this claim set one behind another by wip/bundle.py: XRowK, XBsL. -/
import Derived.Test.YtpnoghcdfbmpoaaGreatDoorBLT10
import Derived.Laws.CopyRow
import Derived.Lib.Hide
namespace Go.Proofs.YtpnoghcdfbmpoaaGreatDoor.PX.X
open Go Go.RowKit Go.Proofs.YtpnoghcdfbmpoaaGreatDoorW.PrintWords
set_option linter.unusedVariables false
set_option linter.unusedSimpArgs false
section
variable {α : Type} {enc : α → List Value} {k : Nat}
structure Flat (d : Kd α) (enc : α → List Value) (k : Nat) : Prop where
 sz : d.sz = k
 pos : 0 < k
 len : ∀ x, (enc x).length = k
 one : ∀ x, ∀ u ∈ enc x, u.oneCell' = true
 M : ∀ {w base ok x cs}, d.M w base ok x cs ↔ cs = enc x
 K : ∀ {w x cs}, d.K w x cs ↔ cs = enc x
end
section
variable {P : Program}
end
section
variable {α : Type} {enc : α → List Value} {k : Nat}
theorem C_cells {d : Kd α} (F : Flat d enc k) {w : World} {A : Option Addr} {n : Nat} {xs : List α} (h : d.C w A n xs) (i : Nat) (x : α) (hx : xs[i]? = some x) : ∃ ad, A = some ad ∧ ∀ q v, (enc x)[q]? = some v → w.cell? ((ad.add (i * k)).add q) = some v := by
 have hi : i < n := by have := (List.getElem?_eq_some_iff.1 hx).1; have := h.1; omega
 obtain ⟨ad, e0, hc⟩ := h.2.2 (by omega)
 obtain ⟨cs, hl, hK, hcell⟩ := hc i x hx
 refine ⟨ad, e0, fun q v hv => ?_⟩
 have := hcell q v (by rw [F.K.1 hK]; exact hv)
 rw [F.sz] at this
 rw [← this]
 congr 1
 unfold Addr.add
 by_cases h1 : i * k = 0 <;> by_cases h2 : q = 0 <;> simp [h1, h2, Nat.add_assoc]
end
end Go.Proofs.YtpnoghcdfbmpoaaGreatDoor.PX.X

namespace Go.Proofs.YtpnoghcdfbmpoaaGreatDoor.PX.X
set_option linter.unusedVariables false
def bsF (lt : Nat → Bool) : Nat → Nat → Nat → Nat
 | 0, i, _ => i
 | f + 1, i, j => if i < j then (if lt ((i + j) / 2) = true then bsF lt f ((i + j) / 2 + 1) j else bsF lt f i ((i + j) / 2)) else i
theorem bsF_end (lt : Nat → Bool) (f i j : Nat) (h : ¬ i < j) : bsF lt f i j = i := by
 cases f with
 | zero => rfl
 | succ f => exact if_neg h
theorem bsF_up (lt : Nat → Bool) (f i j : Nat) (h : i < j) (hl : lt ((i + j) / 2) = true) : bsF lt (f + 1) i j = bsF lt f ((i + j) / 2 + 1) j := (if_pos h).trans (if_pos hl)
theorem bsF_down (lt : Nat → Bool) (f i j : Nat) (h : i < j) (hl : lt ((i + j) / 2) = false) : bsF lt (f + 1) i j = bsF lt f i ((i + j) / 2) := (if_pos h).trans (if_neg (by rw [hl]; decide))
theorem bsF_cut (lt : Nat → Bool) (m : Nat) : ∀ (f i j : Nat), i ≤ m → m ≤ j → j - i ≤ f → (∀ h, i ≤ h → h < j → (lt h = true ↔ h < m)) → bsF lt f i j = m
 | 0, i, j, hi, hj, hf, _ => by show i = m; omega
 | f + 1, i, j, hi, hj, hf, H => by
   by_cases h : i < j
   · cases hl : lt ((i + j) / 2) with
     | true =>
       have h1 := (H ((i + j) / 2) (by omega) (by omega)).1 hl
       rw [bsF_up lt f i j h hl]
       exact bsF_cut lt m f _ j (by omega) hj (by omega) (fun q h1 h2 => H q (by omega) h2)
     | false =>
       have h1 : ¬ (i + j) / 2 < m := fun z => by
        have := (H ((i + j) / 2) (by omega) (by omega)).2 z
        rw [hl] at this
        cases this
       rw [bsF_down lt f i j h hl]
       exact bsF_cut lt m f i _ hi (by omega) (by omega) (fun q h1 h2 => H q h1 (by omega))
   · rw [bsF_end lt _ i j h]
     omega
section
variable {α : Type}
def bsLt (cf : α → Int) (zs : List α) (h : Nat) : Bool := match zs[h]? with
 | some x => decide (cf x < 0)
 | none => false
def bsAt (cf : α → Int) (zs : List α) : Nat := bsF (bsLt cf zs) zs.length 0 zs.length
def bsHit (cf : α → Int) (zs : List α) : Bool := match zs[bsAt cf zs]? with
 | some x => decide (cf x = 0)
 | none => false
theorem bsLt_at (cf : α → Int) (zs : List α) (h : Nat) (x : α) (hx : zs[h]? = some x) : bsLt cf zs h = decide (cf x < 0) := by
 unfold bsLt
 rw [hx]
theorem bsHit_at (cf : α → Int) (zs : List α) (x : α) (hx : zs[bsAt cf zs]? = some x) : bsHit cf zs = decide (cf x = 0) := by
 unfold bsHit
 rw [hx]
theorem bsHit_none (cf : α → Int) (zs : List α) (hx : zs[bsAt cf zs]? = none) : bsHit cf zs = false := by
 unfold bsHit
 rw [hx]
end
end Go.Proofs.YtpnoghcdfbmpoaaGreatDoor.PX.X
