/- Texts of this claim set one behind another by wip/bundle.py: XGet, XLawParentsOf. -/
import Derived.Test.YtjibadlbiapcmaaGreatDoorBPO34
import Derived.Test.YtjibadlbiapcmaaGreatDoorBPO26
import Derived.Test.YtjibadlbiapcmaaGreatDoorBPO39
import Derived.Test.YtjibadlbiapcmaaGreatDoorBPO15
import Derived.Test.YtjibadlbiapcmaaGreatDoorBPO38
import Derived.Test.YtjibadlbiapcmaaGreatDoorBPO16
import Derived.Test.YtjibadlbiapcmaaGreatDoorBPO20
namespace Go.Proofs.YtjibadlbiapcmaaGreatDoorX
open Go Go.RowKit Go.Proofs.YtjibadlbiapcmaaGreatDoorW.PrintWords Go.Proofs.YtjibadlbiapcmaaGreatDoor.PX
open Go.Proofs.YtjibadlbiapcmaaGreatDoor.PX.X (lessB lessB_irrefl lessB_trans lessB_eq bsAt bsHit cmpO decL)
set_option linter.unusedVariables false
set_option linter.unusedSimpArgs false
theorem oconvs {l : List LObj} (h : ∀ x ∈ l, objSmall x) : oSmall (l.map objConv) := by
  intro x hx
  obtain ⟨y, hy, rfl⟩ := List.mem_map.1 hx
  exact (h y hy).2
/-- The data of a name and a kind. -/
def getV (l : List IObj) (kind : Int) (id : ByteArray) : Option ByteArray := match l[cnt (lessK oId id) l]? with
  | some x => if x.f0 = id then (if x.f1 = kind then some x.f2 else none) else none
  | none => none
def pairV : Option ByteArray → ByteArray × Bool
  | some d => (d, true)
  | none => (⟨#[]⟩, false)
theorem getV_small {l : List IObj} (hs : oSmall l) {kind : Int} {id D : ByteArray} (h : getV l kind id = some D) : D.size ≤ 1048576 := by
  unfold getV at h
  cases hx : l[cnt (lessK oId id) l]? with
  | none => rw [hx] at h; cases h
  | some x =>
    rw [hx] at h
    simp only at h
    split at h
    · split at h
      · rw [← Option.some.inj h]
        exact hs x (List.mem_of_getElem? hx)
      · cases h
    · cases h
theorem impl_getV (l : List IObj) (kind : Int) (id : ByteArray) (hr : rising oId l) (hl : l.length ≤ 200) : impl_get.f l kind id = some (pairV (getV l kind id)) := by
  have e : (cmpO id) = cmpK oId id := rfl
  unfold impl_get.f impl_find.f
  rw [if_pos (by omega), Option.bind_some, e, bs_rising oId hr]
  unfold getV
  cases hx : l[cnt (lessK oId id) l]? with
  | none =>
    rw [hit_none oId hr _ hx]
    rfl
  | some x =>
    have hlt := (List.getElem?_eq_some_iff.1 hx).1
    have hg : oAt l (cnt (lessK oId id) l) = x := by unfold oAt; rw [List.getD_eq_getElem?_getD, hx]; rfl
    rw [hit_rising oId hr _ x hx]
    by_cases he : x.f0 = id
    · rw [decide_eq_true he]
      simp only [if_true]
      rw [if_pos (by omega), if_pos (by omega), rdO, hg, if_pos he]
      by_cases hk : x.f1 = kind
      · rw [if_pos hk, if_pos hk]
        rfl
      · rw [if_neg hk, if_neg hk]
        rfl
    · rw [decide_eq_false he]
      simp only [if_neg he]
      rfl
theorem spec_getV (l : List IObj) (kind : Int) (id : ByteArray) (hr : rising oId l) (hl : l.length ≤ 200) (k : Nat) (hk : 201 ≤ k) : spec_l5Get.f k l kind id = some (pairV (getV l kind id)) := by
  have hf := spec_find_from l id hr (by omega) l.length 0 (by omega) (Nat.zero_le _) k (by omega)
  unfold spec_l5Get.f spec_l5Find.f
  rw [show spec_l5Find.l0 k l id 0 = _ from hf, Option.bind_some]
  unfold getV
  cases hx : l[cnt (lessK oId id) l]? with
  | none => rfl
  | some x =>
    have hlt := (List.getElem?_eq_some_iff.1 hx).1
    have hg : oAt l (cnt (lessK oId id) l) = x := by unfold oAt; rw [List.getD_eq_getElem?_getD, hx]; rfl
    by_cases he : x.f0 = id
    · simp only [if_pos he]
      rw [if_neg (by omega), if_pos (by omega), if_pos (by omega), rdO, hg]
      by_cases hk : x.f1 = kind
      · rw [if_pos hk, if_pos hk]
        rfl
      · rw [if_neg hk, if_neg hk]
        rfl
    · simp only [if_neg he]
      rfl
/-- A commit of a store, a code. -/
noncomputable def comV (l : List IObj) (id : ByteArray) : ByteArray × List ByteArray × Int × ByteArray × Int := by
  classical
  exact match getV l 3 id with
    | some D => if goodD D then ((decV D).1, (decV D).2.1, (decV D).2.2.1, (decV D).2.2.2, 0) else (⟨#[]⟩, [], 0, ⟨#[]⟩, 5)
    | none => (⟨#[]⟩, [], 0, ⟨#[]⟩, 4)
theorem impl_comV (l : List IObj) (id : ByteArray) (hs : oSmall l) (hr : rising oId l) (hl : l.length ≤ 200) (k : Nat) (hk : 1048900 < k) : impl_commitOf.f k l id = some (comV l id) := by
  unfold impl_commitOf.f comV
  rw [impl_getV l 3 id hr hl, Option.bind_some]
  cases hg : getV l 3 id with
  | none => rfl
  | some D =>
    obtain ⟨b, h1, h2⟩ := impl_dec D (getV_small hs hg) k hk
    simp only [pairV, if_true]
    rw [h1, Option.bind_some]
    by_cases hgd : goodD D
    · rw [if_pos hgd, h2.2 hgd]
      rfl
    · have hb : b = false := Bool.eq_false_iff.mpr fun z => hgd (h2.1 z)
      rw [if_neg hgd, hb]
      rfl
theorem spec_comV (l : List IObj) (id : ByteArray) (hs : oSmall l) (hr : rising oId l) (hl : l.length ≤ 200) (k : Nat) (hk : 9000000 < k) : spec_l9Commit.f k l id = some (comV l id) := by
  unfold spec_l9Commit.f comV
  rw [spec_getV l 3 id hr hl k (by omega), Option.bind_some]
  cases hg : getV l 3 id with
  | none => rfl
  | some D =>
    obtain ⟨r, b, h1, h2, h3⟩ := spec_dec D (getV_small hs hg) k hk
    simp only [pairV, if_true]
    rw [h1, Option.bind_some]
    by_cases hgd : goodD D
    · rw [if_pos hgd, h2.2 hgd, h3 (h2.2 hgd)]
      rfl
    · have hb : b = false := Bool.eq_false_iff.mpr fun z => hgd (h2.1 z)
      rw [if_neg hgd, hb]
      rfl
theorem comV_len (l : List IObj) (id : ByteArray) : (comV l id).2.1.length ≤ 3 := by
  unfold comV
  cases getV l 3 id with
  | none => exact Nat.zero_le _
  | some D =>
    simp only
    split
    · rename_i h
      obtain ⟨_, u, hr, _⟩ := h
      exact hr.pars
    · exact Nat.zero_le _
end Go.Proofs.YtjibadlbiapcmaaGreatDoorX

namespace Go.Proofs.YtjibadlbiapcmaaGreatDoorX
open Go Go.RowKit Go.Proofs.YtjibadlbiapcmaaGreatDoorW.PrintWords Go.Proofs.YtjibadlbiapcmaaGreatDoor.PX
set_option linter.unusedVariables false
noncomputable def parV (l : List IObj) (id : ByteArray) : Int × List ByteArray := if storeV l = 0 then ((comV l id).2.2.2.2, (comV l id).2.1) else (storeV l, [])
theorem comV_bad (l : List IObj) (id : ByteArray) (h : ¬ (comV l id).2.2.2.2 = 0) : (comV l id).2.1 = [] := by
  revert h
  unfold comV
  cases getV l 3 id with
  | none => intro _; rfl
  | some D =>
    simp only
    split
    · intro h
      exact absurd rfl h
    · intro _
      rfl
theorem impl_par (l : List IObj) (id : ByteArray) (hs : oSmall l) (k : Nat) (hk : 1049000 < k) : impl_ParentsOf.f k l id = some (parV l id) := by
  unfold impl_ParentsOf.f parV
  rw [impl_store l hs k hk, Option.bind_some]
  by_cases h : storeV l = 0
  · obtain ⟨h1, _, h3⟩ := storeV_ok h
    rw [if_pos h, if_pos h, impl_comV l id hs h3 h1 k (by omega), Option.bind_some]
    by_cases hc : (comV l id).2.2.2.2 = 0
    · rw [if_pos hc, hc]
    · rw [if_neg hc, comV_bad l id hc]
  · rw [if_neg h, if_neg h]
theorem spec_par (l : List IObj) (id : ByteArray) (hs : oSmall l) (k : Nat) (hk : 9000000 < k) : spec_ParentsOf.f k l id = some (parV l id) := by
  unfold spec_ParentsOf.f parV
  rw [spec_store l hs k (by omega), Option.bind_some]
  by_cases h : storeV l = 0
  · obtain ⟨h1, _, h3⟩ := storeV_ok h
    rw [if_pos h, if_pos h, spec_comV l id hs h3 h1 k (by omega), Option.bind_some]
  · rw [if_neg h, if_neg h]
theorem parV_len (l : List IObj) (id : ByteArray) : (parV l id).2.length ≤ 3 := by
  unfold parV
  split
  · exact comV_len l id
  · exact Nat.zero_le _
theorem eqLinesResult_same (c : Int) (l : List ByteArray) (hl : l.length ≤ 1048576) (k : Nat) (hk : l.length < k) : laws_eqLinesResult.f k c l c l = some true := by
  unfold laws_eqLinesResult.f
  rw [if_pos rfl, eqStringS_same l hl k hk, Option.bind_some, if_pos rfl]
theorem parentsOf_pure (l : List LObj) (id : ByteArray) (hl1 : l.length * 40 ≤ 140737488351232) (hl2 : ∀ x ∈ l, x.f0.size ≤ 140737488351232 ∧ (Go.Lit.int .i64 x.f1).wf = true ∧ x.f2.size ≤ 140737488351232) (hd : id.size ≤ 140737488351232) : ∃ k, laws_FnExactParentsOf.f k l id = some true := by
  obtain ⟨K, hK⟩ : ∃ K, K = l.length + 9000010 := ⟨_, rfl⟩
  refine ⟨K + 1, ?_⟩
  unfold laws_FnExactParentsOf.f
  by_cases cd : (id.size : Int) > 1048576
  · rw [if_pos cd]
  rw [if_neg cd]
  obtain ⟨r, hr, hle, hq⟩ := szObjectS_tells l (by omega) (fun x hx => ⟨(hl2 x hx).1, (hl2 x hx).2.2⟩) 1048576 (by decide) (by decide) (K + 1) (by omega)
  rw [hr, Option.bind_some]
  by_cases c : r < 0
  · rw [if_pos c]
  obtain ⟨hn, hs⟩ := hq (by omega)
  have hm : (l.map objConv).length = l.length := List.length_map _
  have hv := parV_len (l.map objConv) id
  have e1 := toObjectS_tells l hn (K + 1) (by omega)
  have e2 := spec_par (l.map objConv) id (oconvs hs) (K + 1) (by omega)
  have e3 := impl_par (l.map objConv) id (oconvs hs) (K + 1) (by omega)
  have e1' := toObjectS_tells l hn K (by omega)
  have e3' := impl_par (l.map objConv) id (oconvs hs) K (by omega)
  have e4 := eqObjectS_same (l.map objConv) (by omega) (K + 1) (by omega)
  have e5 := markObjectS_tells (l.map objConv) 1 (by omega) (K + 1) (by omega)
  generalize parV (l.map objConv) id = v at hv e2 e3 e3'
  obtain ⟨vc, vl⟩ := v
  have e6 := eqLinesResult_same vc vl (by simp only at hv; omega) (K + 1) (by simp only at hv; omega)
  have e6' := eqLinesResult_same vc vl (by simp only at hv; omega) K (by simp only at hv; omega)
  have m1 := markStringS_tells vl 1 (by simp only at hv; omega) K (by simp only at hv; omega)
  have m2 := heldStringS_tells vl.length 1 (by simp only at hv; omega) K (by simp only at hv; omega)
  rw [if_neg c]
  simp only [e1, e2, e3, e4, e6, Option.bind_some, if_true]
  rw [show laws_markObjectS.f (K + 1) (l.map objConv) 1 = _ from e5, Option.bind_some, if_neg (by omega)]
  rw [laws_FnExactParentsOf.j0, if_neg (by decide)]
  unfold laws_markLinesResult.f laws_heldLinesResult.f
  rw [show laws_markStringS.f K vl 1 = _ from m1]
  simp only [Option.bind_some]
  rw [show laws_heldStringS.f K (strMarks 1 vl.length) 1 = _ from m2]
  simp only [Option.bind_some]
  rw [if_neg (by omega)]
  simp only [Option.bind_some]
  rw [if_neg (by omega)]
  simp only [e1', e3', e6', Option.bind_some, if_true]
  rw [if_neg (by omega)]
end Go.Proofs.YtjibadlbiapcmaaGreatDoorX
