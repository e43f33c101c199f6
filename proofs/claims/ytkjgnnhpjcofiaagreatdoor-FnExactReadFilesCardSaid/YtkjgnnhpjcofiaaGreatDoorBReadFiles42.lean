/- Texts of this claim set one behind another by wip/bundle.py: XGetV. -/
import Derived.Test.YtkjgnnhpjcofiaaGreatDoorBReadFiles41
import Derived.Test.YtkjgnnhpjcofiaaGreatDoorBReadFiles32
import Derived.Test.YtkjgnnhpjcofiaaGreatDoorBReadFiles15
namespace Go.Proofs.YtkjgnnhpjcofiaaGreatDoorX
open Go Go.RowKit Go.Proofs.YtkjgnnhpjcofiaaGreatDoorW.PrintWords Go.Proofs.YtkjgnnhpjcofiaaGreatDoor.PX
open Go.Proofs.YtkjgnnhpjcofiaaGreatDoor.PX.X (lessB lessB_irrefl lessB_trans lessB_eq bsAt bsHit cmpO)
set_option linter.unusedVariables false
set_option linter.unusedSimpArgs false
theorem oconvs {l : List LObj} (h : ∀ x ∈ l, objSmall x) : oSmall (l.map objConv) := by
 intro x hx
 obtain ⟨y, hy, rfl⟩ := List.mem_map.1 hx
 exact (h y hy).2
def getV (l : List IObj) (kind : Int) (id : ByteArray) : Option ByteArray := match l[cnt (lessK oId id) l]? with
 | some x => if x.f0 = id then (if x.f1 = kind then some x.f2 else none) else none
 | none => none
def pairV : Option ByteArray → ByteArray × Bool
 | some d => (d, true)
 | none => (⟨#[]⟩, false)
theorem getV_small {l : List IObj} (hs : oSmall l) {kind : Int} {id D : ByteArray} (h : getV l kind id = some D) : D.size ≤ 1048576 := by
 unfold getV at h
 cases hx : l[cnt (lessK oId id) l]? with
 | none => rw [hx] at h; cases h
 | some x =>
   rw [hx] at h
   simp only at h
   split at h
   · split at h
     · rw [← Option.some.inj h]
       exact hs x (List.mem_of_getElem? hx)
     · cases h
   · cases h
theorem impl_getV (l : List IObj) (kind : Int) (id : ByteArray) (hr : rising oId l) (hl : l.length ≤ 200) : impl_get.f l kind id = some (pairV (getV l kind id)) := by
 have e : (cmpO id) = cmpK oId id := rfl
 unfold impl_get.f impl_find.f
 rw [if_pos zq7, Option.bind_some, e, bs_rising oId hr]
 unfold getV
 cases hx : l[cnt (lessK oId id) l]? with
 | none =>
   rw [hit_none oId hr _ hx]
   rfl
 | some x =>
   have hlt := (List.getElem?_eq_some_iff.1 hx).1
   have hg : oAt l (cnt (lessK oId id) l) = x := by unfold oAt; rw [List.getD_eq_getElem?_getD, hx]; rfl
   rw [hit_rising oId hr _ x hx]
   by_cases he : x.f0 = id
   · rw [decide_eq_true he]
     simp only [if_true]
     rw [if_pos zq7, if_pos zq7, rdO, hg, if_pos he]
     by_cases hk : x.f1 = kind
     · rw [if_pos hk, if_pos hk]
       rfl
     · rw [if_neg hk, if_neg hk]
       rfl
   · rw [decide_eq_false he]
     simp only [if_neg he]
     rfl
theorem spec_getV (l : List IObj) (kind : Int) (id : ByteArray) (hr : rising oId l) (hl : l.length ≤ 200) (k : Nat) (hk : 201 ≤ k) : spec_l5Get.f k l kind id = some (pairV (getV l kind id)) := by
 have hf := spec_find_from l id hr zq7 l.length 0 zq7 (Nat.zero_le _) k zq7
 unfold spec_l5Get.f spec_l5Find.f
 rw [show spec_l5Find.l0 k l id 0 = _ from hf, Option.bind_some]
 unfold getV
 cases hx : l[cnt (lessK oId id) l]? with
 | none => rfl
 | some x =>
   have hlt := (List.getElem?_eq_some_iff.1 hx).1
   have hg : oAt l (cnt (lessK oId id) l) = x := by unfold oAt; rw [List.getD_eq_getElem?_getD, hx]; rfl
   by_cases he : x.f0 = id
   · simp only [if_pos he]
     rw [if_neg zq7, if_pos zq7, if_pos zq7, rdO, hg]
     by_cases hk : x.f1 = kind
     · rw [if_pos hk, if_pos hk]
       rfl
     · rw [if_neg hk, if_neg hk]
       rfl
   · simp only [if_neg he]
     rfl
end Go.Proofs.YtkjgnnhpjcofiaaGreatDoorX
