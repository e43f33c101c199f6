/- Texts of this claim set one behind another by wip/bundle.py: XSortS, XAncSort. -/
import Derived.Test.YtpnoghcdfbmpoaaGreatDoorBLT28
import Derived.Test.YtpnoghcdfbmpoaaGreatDoorBLT15
import Derived.Shelf.Sort.Plain
import Derived.Shelf.Slices.In.SortNone
import Derived.Test.YtpnoghcdfbmpoaaGreatDoorBLT22
namespace Go.Proofs.YtpnoghcdfbmpoaaGreatDoor.PX.X
open Go Go.RowKit Go.Lib Go.Proofs.YtpnoghcdfbmpoaaGreatDoorW.PrintWords Go.Proofs.YtpnoghcdfbmpoaaGreatDoor.PX
set_option linter.unusedVariables false
set_option linter.unusedSimpArgs false
def sortB (l : List ByteArray) : List ByteArray := ((l.map dataL).mergeSort fun x y => decide (x ≤ y)).map backL
open Go.Sort in
theorem grow_any (W : World) (os : Array Obj) : Go.RowKit.Below W.heap.size W (grow W os) := by
 refine ⟨rfl, rfl, rfl, ?_, fun i hi => ?_⟩
 · show W.heap.size ≤ (W.heap ++ os).size
   rw [Array.size_append]
   omega
 · show (W.heap ++ os)[i]? = _
   rw [Array.getElem?_append_left hi]
open Go.Proofs Go.Sort in
theorem sort_own (w : World) (base : Nat) (v : Value) (l : List ByteArray) (hR : Kd.R Kd.string 9 w base (fun _ => True) v l) (hl : l.length < 4611686018427387904) :
 Calls Tryz.prog 67 #[v] w fun e w' => e = .returned (.tuple #[]) ∧ Kd.R Kd.string 9 w' base (fun _ => True) v (sortB l) ∧ ∀ w0 B, Go.RowKit.Below B w0 w → B ≤ base → Go.RowKit.Below B w0 w' := by
 by_cases hv : v = .slice none 0 0
 · subst hv
   have h0 : l = [] := by
    have := (R_str_own hR).2
    rcases this with ⟨_, h⟩ | ⟨g, cap, cur, h, _⟩
    · exact List.eq_nil_of_length_eq_zero h
    · cases h
   subst h0
   refine (Any.slices_Sort_string_none Tryz.lays190 none 0 w).mono ?_
   rintro e w' ⟨rfl, rfl⟩
   have e0 : sortB [] = [] := by simp [sortB]
   rw [e0]
   exact ⟨rfl, hR, fun _ _ h _ => h⟩
 · have ho := R_str_own hR
   rw [← Lib.map_encStr] at ho
   obtain ⟨g, cap, rfl, hbg, hgl, hnc, hcm, hlen, hH⟩ := Lib.holds_of_ownsRow (enc := encStr) ho hv
   have hlen2 : (l.map fun x => x.data.toList).length = l.length := List.length_map _
   have hc := Any.slices_Sort_string Tryz.lays190 g 0 cap (l.map fun x => x.data.toList) w hH hgl zq7
   rw [hlen2] at hc
   refine hc.mono ?_
   rintro e w' ⟨rfl, q, os, rfl⟩
   have hsl : ((l.map fun x => x.data.toList).mergeSort fun x y => decide (x ≤ y)).length = l.length := by rw [List.length_mergeSort]; exact hlen2
   have hz := Lib.ownsRow_putRow (q := q) (ys := (l.map fun x => x.data.toList).mergeSort fun x y => decide (x ≤ y)) (k := l.length) ho hsl (Nat.le_refl _)
   rw [show ((l.map fun x => x.data.toList).mergeSort fun x y => decide (x ≤ y)).take l.length = ((l.map fun x => x.data.toList).mergeSort fun x y => decide (x ≤ y)) from by rw [← hsl]; exact List.take_length, ← back_enc] at hz
   have hb := grow_any (putRow encStr (Sort.ahead w q) g 0 ((l.map fun x => x.data.toList).mergeSort fun x y => decide (x ≤ y)).toArray) os
   have hcl : (sortB l).length = l.length := by unfold sortB; rw [List.length_map]; exact hsl
   refine ⟨rfl, ?_, fun w0 B h hB => ?_⟩
   · have hz2 := pw_own_below hz hb
     have := R_str_of (l := sortB l) (w := grow (putRow encStr (Sort.ahead w q) g 0 ((l.map fun x => x.data.toList).mergeSort fun x y => decide (x ≤ y)).toArray) os) (base := base) (e := 9) (v := .slice (some ⟨g, 0, none⟩) l.length cap) (by rw [hcl]; exact hz2)
     exact this
   · have hp := Lib.below_putRow (enc := encStr) (q := q) (d := ((l.map fun x => x.data.toList).mergeSort fun x y => decide (x ≤ y)).toArray) h (Nat.le_trans hB hbg)
     exact ⟨hp.os, hp.tape, hp.output, Nat.le_trans hp.size hb.size, fun k hk => by
      have hw : (putRow encStr (Sort.ahead w q) g 0 ((l.map fun x => x.data.toList).mergeSort fun x y => decide (x ≤ y)).toArray).heap.size = w.heap.size := by simp [putRow, mapBlock, Sort.ahead]
      rw [hb.block k (by rw [hw]; omega)]
      exact hp.block k hk⟩
end Go.Proofs.YtpnoghcdfbmpoaaGreatDoor.PX.X

namespace Go.Proofs.YtpnoghcdfbmpoaaGreatDoor.PX.X
open Go Go.RowKit Go.Lib Go.Proofs.YtpnoghcdfbmpoaaGreatDoorW.PrintWords
set_option linter.unusedVariables false
theorem lessB_tot2 {a b : ByteArray} (h : ¬ lessB a b = true) (hn : a ≠ b) : lessB b a = true := by
 rw [lessB_eq, decide_eq_true_eq] at h ⊢
 exact Std.lt_of_le_of_ne (List.not_lt.1 h) (fun z => hn (dataL_inj z.symm))
theorem put_mem {x s : ByteArray} : ∀ {l : List ByteArray}, x ∈ putL l s → x = s ∨ x ∈ l
 | [], h => .inl (List.mem_singleton.1 h)
 | y :: l, h => by
   unfold putL at h
   split at h
   · rcases List.mem_cons.1 h with h | h
     · exact .inr (h ▸ List.mem_cons_self)
     · exact (put_mem h).imp_right (List.mem_cons_of_mem _)
   · split at h
     · exact .inr h
     · exact (List.mem_cons.1 h)
theorem put_perm {s : ByteArray} : ∀ {l : List ByteArray}, s ∉ l → (putL l s).Perm (s :: l)
 | [], _ => List.Perm.refl _
 | y :: l, h => by
   unfold putL
   split
   · exact ((put_perm (fun z => h (List.mem_cons_of_mem _ z))).cons y).trans (List.Perm.swap _ _ _)
   · split
     · rename_i h2
       exact absurd (h2 ▸ List.mem_cons_self) h
     · exact List.Perm.refl _
theorem put_pair {s : ByteArray} : ∀ {l : List ByteArray}, l.Pairwise (fun a b => lessB a b = true) → (putL l s).Pairwise (fun a b => lessB a b = true)
 | [], _ => List.pairwise_singleton _ _
 | y :: l, h => by
   have hp := List.pairwise_cons.1 h
   unfold putL
   split
   · rename_i hy
     refine List.pairwise_cons.2 ⟨fun a ha => ?_, put_pair hp.2⟩
     rcases put_mem ha with ha | ha
     · exact ha ▸ hy
     · exact hp.1 a ha
   · rename_i hy
     split
     · exact h
     · rename_i hn
       have hys := lessB_tot2 hy hn
       refine List.pairwise_cons.2 ⟨fun a ha => ?_, h⟩
       rcases List.mem_cons.1 ha with ha | ha
       · exact ha ▸ hys
       · exact lessB_trans hys (hp.1 a ha)
theorem fold_perm : ∀ (R acc : List ByteArray), R.Nodup → (∀ x ∈ R, x ∉ acc) → acc.Pairwise (fun a b => lessB a b = true) → (R.foldl putL acc).Perm (R ++ acc) ∧ (R.foldl putL acc).Pairwise (fun a b => lessB a b = true)
 | [], acc, _, _, hp => ⟨List.Perm.refl _, hp⟩
 | x :: R, acc, hn, hd, hp => by
   have hn2 := List.nodup_cons.1 hn
   have hx := hd x List.mem_cons_self
   obtain ⟨h1, h2⟩ := fold_perm R (putL acc x) hn2.2 (fun y hy hm => by
    rcases put_mem hm with h | h
    · exact hn2.1 (h ▸ hy)
    · exact hd y (List.mem_cons_of_mem _ hy) h) (put_pair hp)
   exact ⟨h1.trans (((put_perm hx).append_left R).trans List.perm_middle), h2⟩
theorem sortB_sortP (R : List ByteArray) (hn : R.Nodup) : sortB R = sortP R := by
 obtain ⟨h1, h2⟩ := fold_perm R [] hn (fun _ _ h => by cases h) List.Pairwise.nil
 rw [List.append_nil] at h1
 have hp : ((R.map dataL).mergeSort fun x y => decide (x ≤ y)).Perm ((sortP R).map dataL) := (List.mergeSort_perm _ _).trans (h1.symm.map dataL)
 have e : ((R.map dataL).mergeSort fun x y => decide (x ≤ y)) = (sortP R).map dataL := by
  refine List.Perm.eq_of_pairwise (le := fun a b => a ≤ b) (fun a b _ _ x y => Std.le_antisymm x y) ?_ ?_ hp
  · exact (List.pairwise_mergeSort (fun a b c x y => decide_eq_true (Std.le_trans (of_decide_eq_true x : a ≤ b) (of_decide_eq_true y : b ≤ c))) (fun a b => by rcases (Std.le_total : a ≤ b ∨ b ≤ a) with h | h <;> simp [h]) _).imp (fun h => of_decide_eq_true h)
  · refine List.pairwise_map.2 (h2.imp fun h => ?_)
    rw [lessB_eq] at h
    exact Std.le_of_lt (of_decide_eq_true h)
 unfold sortB
 rw [e, List.map_map]
 refine (List.map_congr_left (fun x _ => ?_)).trans (List.map_id _)
 rfl
end Go.Proofs.YtpnoghcdfbmpoaaGreatDoor.PX.X
