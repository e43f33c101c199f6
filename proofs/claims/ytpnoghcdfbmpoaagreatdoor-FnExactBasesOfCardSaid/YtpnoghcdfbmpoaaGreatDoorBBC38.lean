/- Texts of this claim set one behind another by wip/bundle.py: XDelS. -/
import Derived.Test.YtpnoghcdfbmpoaaGreatDoorBBC3
import Derived.Test.YtpnoghcdfbmpoaaGreatDoorBBC25
import Derived.Test.YtpnoghcdfbmpoaaGreatDoorBBC29
import Derived.Lib.OwnBridge
namespace Go.Proofs.YtpnoghcdfbmpoaaGreatDoor.PX.X
open Go Go.RowKit Go.Lib Go.Proofs.YtpnoghcdfbmpoaaGreatDoorW.PrintWords
set_option linter.unusedVariables false
set_option linter.unusedSimpArgs false
open Go.Proofs Go.Sort in
theorem sortW_other {enc : ByteArray → Value} {w : World} {blk off m : Nat} {dk : Array ByteArray} {os : Array Obj} (i : Nat) (hi : i < w.heap.size) (hne : i ≠ blk) : (sortWorld enc w blk off m dk os).heap[i]? = w.heap[i]? := by
 unfold sortWorld
 show ((putRow enc (Sort.ahead w m) blk off dk).heap ++ os)[i]? = _
 rw [Array.getElem?_append_left (by rw [Sort.size_putRow]; exact hi)]
 show ((Sort.ahead w m).heap.modify blk _)[i]? = _
 rw [Array.getElem?_modify, if_neg (Ne.symm hne)]
 rfl
open Go.Proofs Go.Sort in
theorem sortW_size {enc : ByteArray → Value} {w : World} {blk off m : Nat} {dk : Array ByteArray} {os : Array Obj} : w.heap.size ≤ (sortWorld enc w blk off m dk os).heap.size := by
 unfold sortWorld
 show _ ≤ ((putRow enc (Sort.ahead w m) blk off dk).heap ++ os).size
 rw [Array.size_append, Sort.size_putRow]
 exact Nat.le_add_right _ _
open Go.Proofs Go.Sort in
theorem del_own (p : ByteArray → Bool) (fn : Nat) (lb : Array Value) (eg : ∀ args w, (callFunc fn args).run Tryz.prog w = .ok (.enter fn args) w) (w : World) (base : Nat) (v : Value) (l : List ByteArray)
 (hR : Kd.R Kd.string 9 w base (fun _ => True) v l) (hb : base ≤ w.heap.size) (hl : l.length ≤ 9223372036854775807)
 (hp : ∀ (W : World) (g : Nat) (x : ByteArray), v.ownBlock = some g → (∀ i, i < w.heap.size → i ≠ g → W.heap[i]? = w.heap[i]?) → w.heap.size ≤ W.heap.size → Calls Tryz.prog fn (#[.string x] ++ lb) W fun e w' => e = .returned (.bool (p x)) ∧ ∃ q, w' = W.drewN q) :
 Calls Tryz.prog 69 #[v, .func (.func fn) #[] lb] w fun e w' => ∃ v', e = .returned v' ∧ Kd.R Kd.string 9 w' base (fun _ => True) v' (l.filter fun x => !p x) ∧ ∀ w0 B, Go.RowKit.Below B w0 w → B ≤ base → Go.RowKit.Below B w0 w' := by
 by_cases hv : v = .slice none 0 0
 · subst hv
   have h0 : l = [] := by
    have := (R_str_own hR).2
    rcases this with ⟨_, h⟩ | ⟨g, cap, cur, h, _⟩
    · exact List.eq_nil_of_length_eq_zero h
    · cases h
   subst h0
   have hidx : Calls Tryz.prog 100 #[.slice none 0 0, .func (.func fn) #[] lb] w fun e w' => e = .returned (.int .i64 (-1)) ∧ Go.RowKit.Below w.heap.size w w' := idxS p fn lb eg [] none 0 w (fun W x hx _ => nomatch hx) (Kd.R_reads' hR).2.2 zq10
   have HIX := Lib.hid hidx
   have HB := Lib.hid hb
   clear hidx hR hp hb
   show Calls Tryz.prog _ #[.slice none 0 0, .func (.func fn) #[] lb] w fun e w' => ∃ v', e = .returned v' ∧ Kd.R Kd.string 9 w' base (fun _ => True) v' [] ∧ ∀ w0 B, Go.RowKit.Below B w0 w → B ≤ base → Go.RowKit.Below B w0 w'
   go_enter Tryz.func69, Tryz.ntmps69
   go_wp2_with (go_at_call 100; (with_reducible refine HIX.out.mono ?_); rintro e w' ⟨rfl, hb'⟩; have HBB := Lib.hid hb'; clear hb')
   go_ret
   exact ⟨_, rfl, Kd.R_nil _ _ _ _ _, fun w0 B h hB => h.trans (HBB.out.mono (Nat.le_trans hB HB.out))⟩
 · have ho := R_str_own hR
   obtain ⟨g, cap, rfl, hbg, hgl, hnc, hcm, hlen, hH⟩ := Lib.holds_of_ownsRow (enc := Value.string) ho hv
   have hc := AnyE.slices_DeleteFunc Tryz.laysDelStr Value.string (fun _ => rfl) p fn lb eg ⟨#[]⟩ Tryz.zeroValue9 g 0 cap l.toArray w (fun W x hW => hp W g x rfl (fun i hi _ => hW.block i hi) hW.size) (fun n os dk x _ => hp _ g x rfl (fun i hi hne => sortW_other i hi hne) sortW_size) hH (by rw [List.size_toArray]; exact hl) (by rw [List.size_toArray]; exact hnc)
   have hfl := List.length_filter_le (fun x => !p x) l
   change Calls Tryz.prog 69 #[.slice (some ⟨g, 0, none⟩) l.length cap, .func (.func fn) #[] lb] w _ at hc
   refine hc.mono ?_
   rintro e w' ⟨rfl, q, rfl⟩
   refine ⟨_, rfl, R_str_of ?_, fun w0 B h hB => Lib.below_putRow h (Nat.le_trans hB hbg)⟩
   have hz := Lib.ownsRow_putRow (q := q) (ys := (l.filter fun x => !p x) ++ List.replicate (l.length - (l.filter fun x => !p x).length) ⟨#[]⟩) (k := (l.filter fun x => !p x).length) ho (by simp; omega) hfl
   rw [List.take_left] at hz
   exact hz
end Go.Proofs.YtpnoghcdfbmpoaaGreatDoor.PX.X
