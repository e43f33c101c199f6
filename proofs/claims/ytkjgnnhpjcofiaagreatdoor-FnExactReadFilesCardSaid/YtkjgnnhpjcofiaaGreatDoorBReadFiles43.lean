/- Texts of this claim set one behind another by wip/bundle.py: XReadV. -/
import Derived.Test.YtkjgnnhpjcofiaaGreatDoorBReadFiles23
import Derived.Test.YtkjgnnhpjcofiaaGreatDoorBReadFiles34
import Derived.Test.YtkjgnnhpjcofiaaGreatDoorBReadFiles42
import Derived.Test.YtkjgnnhpjcofiaaGreatDoorBReadFiles41
namespace Go.Proofs.YtkjgnnhpjcofiaaGreatDoor.PX.X
open Go Go.RowKit Go.Lib Go.Proofs.YtkjgnnhpjcofiaaGreatDoorW.PrintWords Go.Proofs.YtkjgnnhpjcofiaaGreatDoor.PX Go.Proofs.YtkjgnnhpjcofiaaGreatDoorX Go.Proofs.YtkjgnnhpjcofiaaGreatDoorX.TD
set_option linter.unusedVariables false
def nodeV (l : List IObj) (t : ByteArray) : Int × List EntT := match getV l 2 t with
 | none => (4, [])
 | some D => match trV D.data.toList with
   | none => (5, [])
   | some es => (0, es)
theorem node_good (l : List IObj) : GoodN (nodeV l) := by
 have h : ∀ t, (nodeV l t).2.length ≤ 100 ∧ (∀ e ∈ (nodeV l t).2, e.f0.data.toList.length ≤ 12 ∧ ∀ b ∈ e.f0.data.toList, b ≠ 47) ∧ ((nodeV l t).2.map fun e => e.f0.data.toList).Nodup := by
  intro t
  unfold nodeV
  cases getV l 2 t with
  | none => exact ⟨Nat.zero_le _, fun e he => (by cases he), List.nodup_nil⟩
  | some D =>
    simp only
    cases hd : trV D.data.toList with
    | none => exact ⟨Nat.zero_le _, fun e he => (by cases he), List.nodup_nil⟩
    | some es => exact trV_good hd
 exact ⟨fun t => (h t).1, fun t e he => by have := ((h t).2.1 e he).1; rwa [Array.length_toList] at this, fun t e he => ((h t).2.1 e he).2, fun t => (h t).2.2⟩
def gtI (l : List IObj) (t : ByteArray) : ByteArray × Bool := pairV (getV l 2 t)
def deI (D : ByteArray) : List EntT × Bool := (impl_decodeTree.f 9000001 D).getD ([], false)
def deS (D : ByteArray) : List EntT × Bool := (spec_l6Untree.f 9000001 D).getD ([], false)
theorem deI_all {D : ByteArray} (h : D.size ≤ 1048576) (k : Nat) (hk : 9000000 < k) : impl_decodeTree.f k D = some (deI D) := by
 unfold deI
 rw [impl_untr D h k hk, impl_untr D h 9000001 zq7]
 rfl
theorem deS_all {D : ByteArray} (h : D.size ≤ 1048576) (k : Nat) (hk : 9000000 < k) : spec_l6Untree.f k D = some (deS D) := by
 unfold deS
 rw [spec_untr D h k hk, spec_untr D h 9000001 zq7]
 rfl
theorem ndI_eq {l : List IObj} (h : okO l) (t : ByteArray) : ndG (gtI l) deI t = nodeV l t := by
 unfold ndG nodeV gtI
 cases hg : getV l 2 t with
 | none => rfl
 | some D =>
   obtain ⟨e, b, h1, h2, h3⟩ := impl_trV D (getV_small h.2.1 hg) 9000001 zq7
   have hd : deI D = (e, b) := by unfold deI; rw [h1]; rfl
   simp only [pairV, if_true, hd]
   cases b with
   | true => rw [h2 rfl]; rfl
   | false => rw [h3 rfl]; rfl
theorem ndS_eq {l : List IObj} (h : okO l) (t : ByteArray) : ndG (gtI l) deS t = nodeV l t := by
 unfold ndG nodeV gtI
 cases hg : getV l 2 t with
 | none => rfl
 | some D =>
   obtain ⟨e, b, h1, h2, h3⟩ := spec_trV D (getV_small h.2.1 hg) 9000001 zq7
   have hd : deS D = (e, b) := by unfold deS; rw [h1]; rfl
   simp only [pairV, if_true, hd]
   cases b with
   | true => rw [h2 rfl]; rfl
   | false => rw [h3 rfl]; rfl
theorem get_sz {l : List IObj} (h : okO l) (t : ByteArray) (hb : (gtI l t).2 = true) : (gtI l t).1.size ≤ 1048576 := by
 unfold gtI at hb ⊢
 cases hg : getV l 2 t with
 | none => rw [hg] at hb; cases hb
 | some D => exact getV_small h.2.1 hg
def walkT (l : List IObj) (t : ByteArray) : Int × Int × List FileT := (walkV (nodeV l) 5 0 t (⟨#[]⟩ : ByteArray) 0).getD (0, 0, [])
theorem walkT_eq (l : List IObj) (t : ByteArray) : walkV (nodeV l) 5 0 t (⟨#[]⟩ : ByteArray) 0 = some (walkT l t) := by
 obtain ⟨r, hr⟩ := walkV_some (nodeV l) 5 0 t (⟨#[]⟩ : ByteArray) 0 zq7 zq7
 unfold walkT
 rw [hr]
 rfl
def readV (l : List IObj) (t : ByteArray) : Int × List FileT := endV (walkT l t)
theorem readV_len (l : List IObj) (t : ByteArray) : (readV l t).2.length ≤ 60 := by
 unfold readV endV
 split
 · split
   · exact Nat.zero_le _
   · have := sortF_len (walkT l t).2.2 []
     unfold sortF
     rw [this]
     simp only [List.length_nil]
     omega
 · exact Nat.zero_le _
def readF (k : Nat) (l : List IObj) (t : ByteArray) : Option (Int × List FileT) := if 9000000 < k ∧ okO l then some (readV l t) else none
end Go.Proofs.YtkjgnnhpjcofiaaGreatDoor.PX.X
