/- Texts of this claim set one behind another by wip/bundle.py: XSortL. -/
import Derived.Test.YtpnoghcdfbmpoaaGreatDoorBLT3
import Derived.Test.YtpnoghcdfbmpoaaGreatDoorBLT28
import Derived.Test.YtpnoghcdfbmpoaaGreatDoorBLT35
import Derived.Test.YtpnoghcdfbmpoaaGreatDoorBLT38
import Derived.Lib.OwnBridge
namespace Go.Proofs.YtpnoghcdfbmpoaaGreatDoor.PX.X
open Go Go.RowKit Go.Lib Go.Proofs.YtpnoghcdfbmpoaaGreatDoorW.PrintWords
set_option linter.unusedVariables false
set_option linter.unusedSimpArgs false
abbrev SB := {x : ByteArray // x.size ≤ 9223372036854775807}
instance : Inhabited SB := ⟨⟨⟨#[]⟩, by decide⟩⟩
def encSB (x : SB) : Value := .string x.1
def liftB (l : List ByteArray) (h : ∀ x ∈ l, x.size ≤ 9223372036854775807) : List SB := l.attach.map fun x => ⟨x.1, h x.1 x.2⟩
theorem lift_val (l : List ByteArray) (h : ∀ x ∈ l, x.size ≤ 9223372036854775807) : (liftB l h).map (fun x => x.1) = l := by
 unfold liftB
 rw [List.map_map]
 exact List.attach_map_subtype_val l
theorem lift_enc (l : List ByteArray) (h : ∀ x ∈ l, x.size ≤ 9223372036854775807) : (liftB l h).map encSB = l.map Value.string := by
 have := congrArg (List.map Value.string) (lift_val l h)
 rw [List.map_map] at this
 exact this
theorem sortWB_other {w : World} {blk off m : Nat} {dk : Array SB} {os : Array Obj} (i : Nat) (hi : i < w.heap.size) (hne : i ≠ blk) : (Go.Proofs.sortWorld encSB w blk off m dk os).heap[i]? = w.heap[i]? := by
 unfold Go.Proofs.sortWorld
 show ((Go.Sort.putRow encSB (Sort.ahead w m) blk off dk).heap ++ os)[i]? = _
 rw [Array.getElem?_append_left (by rw [Sort.size_putRow]; exact hi)]
 show ((Sort.ahead w m).heap.modify blk _)[i]? = _
 rw [Array.getElem?_modify, if_neg (Ne.symm hne)]
 rfl
theorem sortWB_size {w : World} {blk off m : Nat} {dk : Array SB} {os : Array Obj} : w.heap.size ≤ (Go.Proofs.sortWorld encSB w blk off m dk os).heap.size := by
 unfold Go.Proofs.sortWorld
 show _ ≤ ((Go.Sort.putRow encSB (Sort.ahead w m) blk off dk).heap ++ os).size
 rw [Array.size_append, Sort.size_putRow]
 exact Nat.le_add_right _ _
open Go.Proofs Go.Sort in
theorem sort_fn (tm : ByteArray → Int) (fn : Nat) (lb : Array Value) (eg : ∀ args w, (callFunc fn args).run Tryz.prog w = .ok (.enter fn args) w) (w : World) (base : Nat) (v : Value) (l : List ByteArray)
 (hR : Kd.R Kd.string 9 w base (fun _ => True) v l) (hl : l.length < 4611686018427387904) (hsz : ∀ x ∈ l, x.size ≤ 9223372036854775807)
 (hcmp : ∀ (W : World) (g : Nat) (x y : ByteArray), v.ownBlock = some g → (∀ i, i < w.heap.size → i ≠ g → W.heap[i]? = w.heap[i]?) → w.heap.size ≤ W.heap.size → x.size ≤ 9223372036854775807 → y.size ≤ 9223372036854775807 → Calls Tryz.prog fn (#[.string x, .string y] ++ lb) W fun e w' => e = .returned (.int .i64 (cfL tm x y)) ∧ ∃ q, w' = W.drewN q) :
 Calls Tryz.prog 50 #[v, .func (.func fn) #[] lb] w fun e w' => e = .returned (.tuple #[]) ∧ Kd.R Kd.string 9 w' base (fun _ => True) v (l.mergeSort fun x y => !bef tm y x) ∧ (∀ w0 B, Go.RowKit.Below B w0 w → B ≤ base → Go.RowKit.Below B w0 w') ∧ (∀ i, i < w.heap.size → v.ownBlock ≠ some i → w'.heap[i]? = w.heap[i]?) ∧ w.heap.size ≤ w'.heap.size := by
 by_cases hv : v = .slice none 0 0
 · subst hv
   have h0 : l = [] := by
    have := (R_str_own hR).2
    rcases this with ⟨_, h⟩ | ⟨g, cap, cur, h, _⟩
    · exact List.eq_nil_of_length_eq_zero h
    · cases h
   subst h0
   refine (AnyF.slices_SortFunc_none (P := Tryz.prog) (ρ := Tryz.laysSortF_ren) { Tryz.laysSortF with } none 0 _ w).mono ?_
   rintro e w' ⟨rfl, rfl⟩
   exact ⟨rfl, by rw [List.mergeSort_nil]; exact hR, fun _ _ h _ => h, fun _ _ _ => rfl, Nat.le_refl _⟩
 · have ho := R_str_own hR
   rw [← lift_enc l hsz] at ho
   obtain ⟨g, cap, rfl, hbg, hgl, hnc, hcm, hlen, hH⟩ := Lib.holds_of_ownsRow (enc := encSB) ho hv
   have hc := Any.slices_SortFunc_total Tryz.laysSortF encSB (fun _ => rfl) (fun x y : SB => cfL tm x.1 y.1) ⟨fun x => bef_irrefl tm x.1, fun x y z h1 h2 => bef_trans tm h1 h2, fun x y z h1 h2 => bef_ntrans tm h1 h2⟩ fn lb g 0 cap (liftB l hsz).toArray w eg
    (fun m os dk _ x y => (hcmp _ g x.1 y.1 rfl (fun i hi hne => sortWB_other i hi hne) sortWB_size x.2 y.2).mono fun e w' ⟨he, q, hq⟩ => ⟨he, q, #[], by rw [hq, grow_empty]⟩)
    hH hgl (by rw [List.size_toArray, hlen]; exact hl) (fun x y h1 h2 => Subtype.ext (bef_tot tm h1 h2))
   have e0 : (liftB l hsz).toArray.size = l.length := by rw [List.size_toArray]; exact hlen
   rw [e0] at hc
   change Calls Tryz.prog 50 #[.slice (some ⟨g, 0, none⟩) l.length cap, .func (.func fn) #[] lb] w _ at hc
   refine hc.mono ?_
   rintro e w' ⟨rfl, n, os, rfl⟩
   have hms : ((liftB l hsz).toArray.toList.mergeSort fun x y => !(ltOf (fun x y : SB => cfL tm x.1 y.1)) y x).map (fun x => x.1) = l.mergeSort fun x y => !bef tm y x := by
    have hm := List.map_mergeSort (f := fun x : SB => x.1) (r := fun x y : SB => !(ltOf (fun x y : SB => cfL tm x.1 y.1)) y x) (s := fun x y => !bef tm y x) (l := liftB l hsz) (fun a _ b _ => rfl)
    exact hm.trans (by rw [lift_val])
   obtain ⟨ys, hys⟩ : ∃ ys, ((liftB l hsz).toArray.toList.mergeSort fun x y => !(ltOf (fun x y : SB => cfL tm x.1 y.1)) y x) = ys := ⟨_, rfl⟩
   rw [hys] at hms ⊢
   have hyl : ys.length = l.length := by rw [← hys, List.length_mergeSort]; exact hlen
   have hye : ys.map encSB = (l.mergeSort fun x y => !bef tm y x).map Value.string := by
    rw [← hms, List.map_map]
    rfl
   have hz := Lib.ownsRow_putRow (q := n) (ys := ys) (k := l.length) ho hyl (Nat.le_refl _)
   rw [show ys.take l.length = ys from by rw [← hyl]; exact List.take_length, hye] at hz
   have hcl : (l.mergeSort fun x y => !bef tm y x).length = l.length := List.length_mergeSort _
   have hb := grow_any (putRow encSB (Sort.ahead w n) g 0 ys.toArray) os
   refine ⟨rfl, ?_, fun w0 B h hB => ?_, fun i hi hne => sortWB_other i hi (fun z => hne (by rw [z]; rfl)), sortWB_size⟩
   · have hz2 := pw_own_below hz hb
     exact R_str_of (l := l.mergeSort fun x y => !bef tm y x) (v := .slice (some ⟨g, 0, none⟩) l.length cap) (by rw [hcl]; exact hz2)
   · have hp := Lib.below_putRow (enc := encSB) (q := n) (d := ys.toArray) h (Nat.le_trans hB hbg)
     exact ⟨hp.os, hp.tape, hp.output, Nat.le_trans hp.size hb.size, fun k hk => by
      have hw : (putRow encSB (Sort.ahead w n) g 0 ys.toArray).heap.size = w.heap.size := by simp [putRow, mapBlock, Sort.ahead]
      show (grow (putRow encSB (Sort.ahead w n) g 0 ys.toArray) os).heap[k]? = _
      rw [hb.block k (by rw [hw]; have := hR; have hh := h.size; omega)]
      exact hp.block k hk⟩
end Go.Proofs.YtpnoghcdfbmpoaaGreatDoor.PX.X
