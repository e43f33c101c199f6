/- Texts of this claim set one behind another by wip/bundle.py: XGet. -/
import Derived.Test.YtpnoghcdfbmpoaaGreatDoorBLT43
import Derived.Test.YtpnoghcdfbmpoaaGreatDoorBLT30
import Derived.Test.YtpnoghcdfbmpoaaGreatDoorBLT49
import Derived.Test.YtpnoghcdfbmpoaaGreatDoorBLT16
import Derived.Test.YtpnoghcdfbmpoaaGreatDoorBLT48
namespace Go.Proofs.YtpnoghcdfbmpoaaGreatDoorX
open Go Go.RowKit Go.Proofs.YtpnoghcdfbmpoaaGreatDoorW.PrintWords Go.Proofs.YtpnoghcdfbmpoaaGreatDoor.PX
open Go.Proofs.YtpnoghcdfbmpoaaGreatDoor.PX.X (lessB lessB_irrefl lessB_trans lessB_eq bsAt bsHit cmpO decL)
set_option linter.unusedVariables false
set_option linter.unusedSimpArgs false
theorem oconvs {l : List LObj} (h : ∀ x ∈ l, objSmall x) : oSmall (l.map objConv) := by
 intro x hx
 obtain ⟨y, hy, rfl⟩ := List.mem_map.1 hx
 exact (h y hy).2
def getV (l : List IObj) (kind : Int) (id : ByteArray) : Option ByteArray := match l[cnt (lessK oId id) l]? with
 | some x => if x.f0 = id then (if x.f1 = kind then some x.f2 else none) else none
 | none => none
def pairV : Option ByteArray → ByteArray × Bool
 | some d => (d, true)
 | none => (⟨#[]⟩, false)
theorem getV_small {l : List IObj} (hs : oSmall l) {kind : Int} {id D : ByteArray} (h : getV l kind id = some D) : D.size ≤ 1048576 := by
 unfold getV at h
 cases hx : l[cnt (lessK oId id) l]? with
 | none => rw [hx] at h; cases h
 | some x =>
   rw [hx] at h
   simp only at h
   split at h
   · split at h
     · rw [← Option.some.inj h]
       exact hs x (List.mem_of_getElem? hx)
     · cases h
   · cases h
theorem impl_getV (l : List IObj) (kind : Int) (id : ByteArray) (hr : rising oId l) (hl : l.length ≤ 200) : impl_get.f l kind id = some (pairV (getV l kind id)) := by
 have e : (cmpO id) = cmpK oId id := rfl
 unfold impl_get.f impl_find.f
 rw [if_pos zq7, Option.bind_some, e, bs_rising oId hr]
 unfold getV
 cases hx : l[cnt (lessK oId id) l]? with
 | none =>
   rw [hit_none oId hr _ hx]
   rfl
 | some x =>
   have hlt := (List.getElem?_eq_some_iff.1 hx).1
   have hg : oAt l (cnt (lessK oId id) l) = x := by unfold oAt; rw [List.getD_eq_getElem?_getD, hx]; rfl
   rw [hit_rising oId hr _ x hx]
   by_cases he : x.f0 = id
   · rw [decide_eq_true he]
     simp only [if_true]
     rw [if_pos zq7, if_pos zq7, rdO, hg, if_pos he]
     by_cases hk : x.f1 = kind
     · rw [if_pos hk, if_pos hk]
       rfl
     · rw [if_neg hk, if_neg hk]
       rfl
   · rw [decide_eq_false he]
     simp only [if_neg he]
     rfl
theorem spec_getV (l : List IObj) (kind : Int) (id : ByteArray) (hr : rising oId l) (hl : l.length ≤ 200) (k : Nat) (hk : 201 ≤ k) : spec_l5Get.f k l kind id = some (pairV (getV l kind id)) := by
 have hf := spec_find_from l id hr zq7 l.length 0 zq7 (Nat.zero_le _) k zq7
 unfold spec_l5Get.f spec_l5Find.f
 rw [show spec_l5Find.l0 k l id 0 = _ from hf, Option.bind_some]
 unfold getV
 cases hx : l[cnt (lessK oId id) l]? with
 | none => rfl
 | some x =>
   have hlt := (List.getElem?_eq_some_iff.1 hx).1
   have hg : oAt l (cnt (lessK oId id) l) = x := by unfold oAt; rw [List.getD_eq_getElem?_getD, hx]; rfl
   by_cases he : x.f0 = id
   · simp only [if_pos he]
     rw [if_neg zq7, if_pos zq7, if_pos zq7, rdO, hg]
     by_cases hk : x.f1 = kind
     · rw [if_pos hk, if_pos hk]
       rfl
     · rw [if_neg hk, if_neg hk]
       rfl
   · simp only [if_neg he]
     rfl
noncomputable def comV (l : List IObj) (id : ByteArray) : ByteArray × List ByteArray × Int × ByteArray × Int := by
 classical
 exact match getV l 3 id with
  | some D => if goodD D then ((decV D).1, (decV D).2.1, (decV D).2.2.1, (decV D).2.2.2, 0) else (⟨#[]⟩, [], 0, ⟨#[]⟩, 5)
  | none => (⟨#[]⟩, [], 0, ⟨#[]⟩, 4)
theorem impl_comV (l : List IObj) (id : ByteArray) (hs : oSmall l) (hr : rising oId l) (hl : l.length ≤ 200) (k : Nat) (hk : 1048900 < k) : impl_commitOf.f k l id = some (comV l id) := by
 unfold impl_commitOf.f comV
 rw [impl_getV l 3 id hr hl, Option.bind_some]
 cases hg : getV l 3 id with
 | none => rfl
 | some D =>
   obtain ⟨b, h1, h2⟩ := impl_dec D (getV_small hs hg) k hk
   simp only [pairV, if_true]
   rw [h1, Option.bind_some]
   by_cases hgd : goodD D
   · rw [if_pos hgd, h2.2 hgd]
     rfl
   · have hb : b = false := Bool.eq_false_iff.mpr fun z => hgd (h2.1 z)
     rw [if_neg hgd, hb]
     rfl
theorem spec_comV (l : List IObj) (id : ByteArray) (hs : oSmall l) (hr : rising oId l) (hl : l.length ≤ 200) (k : Nat) (hk : 9000000 < k) : spec_l9Commit.f k l id = some (comV l id) := by
 unfold spec_l9Commit.f comV
 rw [spec_getV l 3 id hr hl k zq7, Option.bind_some]
 cases hg : getV l 3 id with
 | none => rfl
 | some D =>
   obtain ⟨r, b, h1, h2, h3⟩ := spec_dec D (getV_small hs hg) k hk
   simp only [pairV, if_true]
   rw [h1, Option.bind_some]
   by_cases hgd : goodD D
   · rw [if_pos hgd, h2.2 hgd, h3 (h2.2 hgd)]
     rfl
   · have hb : b = false := Bool.eq_false_iff.mpr fun z => hgd (h2.1 z)
     rw [if_neg hgd, hb]
     rfl
theorem comV_len (l : List IObj) (id : ByteArray) : (comV l id).2.1.length ≤ 3 := by
 unfold comV
 cases getV l 3 id with
 | none => exact Nat.zero_le _
 | some D =>
   simp only
   split
   · rename_i h
     obtain ⟨_, u, hr, _⟩ := h
     exact hr.pars
   · exact Nat.zero_le _
end Go.Proofs.YtpnoghcdfbmpoaaGreatDoorX
