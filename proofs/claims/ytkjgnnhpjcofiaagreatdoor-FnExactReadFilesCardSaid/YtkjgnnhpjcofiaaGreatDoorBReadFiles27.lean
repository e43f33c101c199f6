/- Texts of this claim set one behind another by wip/bundle.py: XSortK. -/
import Derived.Test.YtkjgnnhpjcofiaaGreatDoorBReadFiles2
import Derived.Test.YtkjgnnhpjcofiaaGreatDoorBReadFiles23
import Derived.Test.YtkjgnnhpjcofiaaGreatDoorBReadFiles22
import Derived.Test.YtkjgnnhpjcofiaaGreatDoorBReadFiles16
import Derived.Test.YtkjgnnhpjcofiaaGreatDoorBReadFiles3
import Derived.Lib.OwnBridge
import Derived.Shelf.Small.Strs
namespace Go.Proofs.YtkjgnnhpjcofiaaGreatDoor.PX.X
open Go Go.RowKit Go.Lib Go.Proofs.YtkjgnnhpjcofiaaGreatDoorW.PrintWords
set_option linter.unusedVariables false
set_option linter.unusedSimpArgs false
def cfF (x y : FileT) : Int := Lib.compareBytes x.f0.data.toList y.f0.data.toList
theorem cfF_neg (x y : FileT) : decide (cfF x y < 0) = lessB x.f0 y.f0 := by
 unfold cfF
 rw [Bool.eq_iff_iff, decide_eq_true_eq]
 exact YtkjgnnhpjcofiaaGreatDoorX.compare_less _ _
theorem swoF : Go.Sort.SWO (Go.Proofs.ltOf cfF) := by
 have e : ∀ x y, Go.Proofs.ltOf cfF x y = lessB x.f0 y.f0 := fun x y => cfF_neg x y
 refine ⟨fun x => ?_, fun x y z h1 h2 => ?_, fun x y z h1 h2 => ?_⟩
 · rw [e]
   exact lessB_irrefl _
 · rw [e] at h1 h2 ⊢
   exact lessB_trans h1 h2
 · rw [e] at h1 h2 ⊢
   have a1 := YtkjgnnhpjcofiaaGreatDoorX.nless_le (fun q => by rw [h1] at q; cases q)
   have a2 := YtkjgnnhpjcofiaaGreatDoorX.nless_le (fun q => by rw [h2] at q; cases q)
   rw [Bool.eq_false_iff]
   intro q
   rw [lessB_eq, decide_eq_true_eq] at q
   exact List.not_lt.2 (List.le_trans a2 a1) q
theorem flat_at {α : Type} [Inhabited α] {enc : α → List Value} {k : Nat} (hk : ∀ x, (enc x).length = k) (h0 : 0 < k) (d : Array α) : (Go.Sort.flatK enc k d).toList = flat enc d.toList := by
 apply List.ext_getElem?
 intro t
 by_cases ht : t < d.size * k
 · have h1 := Go.Sort.get_flatK enc k d t ht
   rw [getElem!_pos _ t (by rw [Go.Sort.size_flatK]; exact ht)] at h1
   have hlt : t < (Go.Sort.flatK enc k d).toList.length := by rw [Array.length_toList, Go.Sort.size_flatK]; exact ht
   rw [List.getElem?_eq_getElem hlt, Array.getElem_toList, h1]
   have hd : t / k < d.size := Nat.div_lt_of_lt_mul (by rw [Nat.mul_comm]; exact ht)
   have e1 : ((flat enc d.toList).drop (t / k * k)).take k = enc d[t / k] := (flat_reps hk d.toList).2 (t / k) _ (by rw [List.getElem?_eq_getElem (by rw [Array.length_toList]; exact hd), Array.getElem_toList])
   have hm := Nat.mod_lt t h0
   have e2 : ((flat enc d.toList).drop (t / k * k))[t % k]? = (enc d[t / k])[t % k]? := by
    rw [← e1, List.getElem?_take_of_lt hm]
   rw [List.getElem?_drop, show t / k * k + t % k = t from by rw [Nat.mul_comm]; exact Nat.div_add_mod t k] at e2
   rw [e2, getElem!_pos d (t / k) hd, List.getElem?_eq_getElem (by rw [hk]; exact hm), getElem!_pos _ _ (by rw [hk]; exact hm)]
 · rw [List.getElem?_eq_none (by rw [Array.length_toList, Go.Sort.size_flatK]; omega), List.getElem?_eq_none (by rw [flat_len hk, Array.length_toList]; omega)]
open Go.Sort in
theorem grow_anyK (W : World) (os : Array Obj) : Go.RowKit.Below W.heap.size W (grow W os) := by
 refine ⟨rfl, rfl, rfl, ?_, fun i hi => ?_⟩
 · show W.heap.size ≤ (W.heap ++ os).size
   rw [Array.size_append]
   omega
 · show (W.heap ++ os)[i]? = _
   rw [Array.getElem?_append_left hi]
open Go.Proofs Go.Sort in
theorem holdsK_of_row {α : Type} [Inhabited α] {enc : α → List Value} {k : Nat} (hk : ∀ x, (enc x).length = k) (h0 : 0 < k) {w : World} {base e n : Nat} {v : Value} {l : List α} (h : w.ownsRow base e k v n (flat enc l)) (hv : v ≠ .slice none 0 0) :
 ∃ g cap, v = .slice (some ⟨g, 0, none⟩) n cap ∧ base ≤ g ∧ g < w.heap.size ∧ n ≤ cap ∧ cap ≤ maxLen ∧ l.length = n ∧ HoldsK enc k w g 0 l.toArray := by
 have hl : l.length * k = n * k := by
  have := h.1
  rwa [flat_len hk] at this
 have hl : l.length = n := Nat.eq_of_mul_eq_mul_right h0 hl
 rcases h.2 with ⟨e0, _⟩ | ⟨g, cap, cur, rfl, hb, hg, hn, hm, hs, ht⟩
 · exact absurd e0 hv
 · have hlt : g < w.heap.size := by
    rcases Nat.lt_or_ge g w.heap.size with h' | h'
    · exact h'
    · rw [Array.getElem?_eq_none h'] at hg; cases hg
   refine ⟨g, cap, rfl, hb, hlt, hn, hm, hl, fun j hj => ?_⟩
   have hj' : j < n * k := by
    have : j < l.toArray.size * k := by simpa using hj
    rwa [List.size_toArray, hl] at this
   refine ⟨?_, by simp [World.frozen?, hg]⟩
   have e1 : (cur.toList.take (n * k))[j]? = (flat enc l)[j]? := by rw [ht]
   rw [List.getElem?_take, if_pos hj', Array.getElem?_toList, ← show (flatK enc k l.toArray).toList = flat enc l from flat_at hk h0 l.toArray, Array.getElem?_toList] at e1
   simp only [World.cell?, hg, Nat.zero_add]
   simp only [Option.isSome_none, Bool.false_eq_true, if_false]
   rw [e1, Array.getElem?_eq_getElem hj]
   simp
   exact (getElem!_pos _ j hj).symm
open Go.Proofs Go.Sort in
theorem row_putK {α : Type} [Inhabited α] {enc : α → List Value} {k : Nat} (hk : ∀ x, (enc x).length = k) (h0 : 0 < k) {w : World} {base e g n cap q : Nat} {l m : List α} (h : w.ownsRow base e k (.slice (some ⟨g, 0, none⟩) n cap) n (flat enc l)) (hm : m.length = n) :
 (putRowK enc k (Sort.ahead w q) g 0 m.toArray).ownsRow base e k (.slice (some ⟨g, 0, none⟩) n cap) n (flat enc m) := by
 rcases h.2 with ⟨e0, _⟩ | ⟨g', cap', cur, e0, hb, hg, hn, hmx, hs, ht⟩
 · cases e0
 · injection e0 with e1 _ e3
   injection e1 with e1
   injection e1 with e1
   subst e1; subst e3
   have hnk : n * k ≤ cap * k := Nat.mul_le_mul_right k hn
   refine ⟨by rw [flat_len hk, hm], .inr ⟨g, cap, putCells id 0 (flatK enc k m.toArray) cur, rfl, hb, ?_, hn, hmx, by simpa [putCells] using hs, ?_⟩⟩
   · simp [putRowK, putRow, mapBlock, Sort.ahead, Array.getElem?_modify, hg, onCells]
   · rw [← show (flatK enc k m.toArray).toList = flat enc m from flat_at hk h0 m.toArray]
     apply List.ext_getElem?
     intro j
     rw [List.getElem?_take, Array.getElem?_toList, Array.getElem?_toList]
     by_cases hj : j < n * k
     · have hjc : j < cur.size := by omega
       have hjf : j < (flatK enc k m.toArray).size := by rw [size_flatK, List.size_toArray, hm]; exact hj
       rw [if_pos hj]
       simp only [putCells, Array.getElem?_mapIdx, Array.getElem?_eq_getElem hjc, Option.map_some]
       rw [if_pos zq7, Array.getElem?_eq_getElem hjf]
       simp
       exact getElem!_pos _ j hjf
     · rw [if_neg hj, Array.getElem?_eq_none (by rw [size_flatK, List.size_toArray, hm]; omega)]
open Go.Proofs Go.Sort in
theorem sortWK_other {w : World} {blk off m : Nat} {dk : Array FileT} {os : Array Obj} (i : Nat) (hi : i < w.heap.size) (hne : i ≠ blk) : (sortWorldK encF 3 w blk off m dk os).heap[i]? = w.heap[i]? := by
 unfold sortWorldK
 show ((putRowK encF 3 (Sort.ahead w m) blk off dk).heap ++ os)[i]? = _
 rw [Array.getElem?_append_left (by rw [size_putRowK]; exact hi)]
 show ((Sort.ahead w m).heap.modify blk _)[i]? = _
 rw [Array.getElem?_modify, if_neg (Ne.symm hne)]
 rfl
open Go.Proofs Go.Sort in
theorem sortWK_size {w : World} {blk off m : Nat} {dk : Array FileT} {os : Array Obj} : w.heap.size ≤ (sortWorldK encF 3 w blk off m dk os).heap.size := by
 unfold sortWorldK
 show _ ≤ ((putRowK encF 3 (Sort.ahead w m) blk off dk).heap ++ os).size
 rw [Array.size_append, size_putRowK]
 exact Nat.le_add_right _ _
instance : Inhabited FileT := ⟨z75⟩
open Go.Proofs Go.Sort in
theorem sort_files (fn : Nat) (eg : ∀ args w, (callFunc fn args).run Tryz.prog w = .ok (.enter fn args) w) (w : World) (base : Nat) (v : Value) (l : List FileT)
 (hR : Kd.R k75 75 w base (fun _ => True) v l) (hl : l.length ≤ 1048576) (hn : (l.map fun x => x.f0.data.toList).Nodup)
 (hcmp : ∀ (W : World) (x y : FileT), Calls Tryz.prog fn #[.agg (encF x).toArray, .agg (encF y).toArray] W fun e w' => e = .returned (.int .i64 (cfF x y)) ∧ ∃ q os, w' = grow (W.drewN q) os) :
 Calls Tryz.prog 78 #[v, .func (.func fn) #[] #[]] w fun e w' => e = .returned (.tuple #[]) ∧ Kd.R k75 75 w' base (fun _ => True) v (sortF l) ∧ (∀ w0 B, Go.RowKit.Below B w0 w → B ≤ base → Go.RowKit.Below B w0 w') ∧ (∀ i, i < w.heap.size → v.ownBlock ≠ some i → w'.heap[i]? = w.heap[i]?) ∧ w.heap.size ≤ w'.heap.size := by
 by_cases hv : v = .slice none 0 0
 · subst hv
   have h0 : l = [] := by
    rcases (R_flat flatF hR).2 with ⟨_, h⟩ | ⟨g, cap, cur, h, _⟩
    · exact List.eq_nil_of_length_eq_zero h
    · cases h
   subst h0
   refine (AnyF.slices_SortFunc_none (P := Tryz.prog) (ρ := Tryz.laysSortT_ren) { Tryz.laysSortT with } none 0 _ w).mono ?_
   rintro e w' ⟨rfl, rfl⟩
   exact ⟨rfl, hR, fun _ _ h _ => h, fun _ _ _ => rfl, Nat.le_refl _⟩
 · have ho := R_flat flatF hR
   obtain ⟨g, cap, rfl, hbg, hgl, hnc, hcm, hlen, hH⟩ := holdsK_of_row (enc := encF) (k := 3) (fun _ => rfl) zq13 ho hv
   have hc := AnyQ.slices_SortFunc Tryz.laysSortT 3 Tryz.isAgg75 Tryz.sizeOf75 encF (fun _ => rfl) flatF.one cfF swoF fn #[] g 0 cap l.toArray w eg
    (fun m os dk _ x y => (hcmp _ x y).mono fun e w' ⟨he, q, os', hq⟩ => ⟨he, q, os', hq⟩)
    hH hgl (by rw [List.size_toArray]; omega)
   rw [List.size_toArray] at hc
   change Calls Tryz.prog 78 #[.slice (some ⟨g, 0, none⟩) l.length cap, .func (.func fn) #[] #[]] w _ at hc
   refine hc.mono ?_
   rintro e w' ⟨rfl, d', n, os, ⟨hsz, _, hperm⟩, hso, rfl⟩
   have hsz : d'.size = l.length := by rw [hsz, List.size_toArray]
   have hd : d'.toList = sortF l := by
    refine YtkjgnnhpjcofiaaGreatDoorX.sortF_one ?_ ?_ hn
    · have e1 : d'.extract 0 l.length = d' := by rw [← hsz]; exact Array.extract_size
      have e2 : l.toArray.extract 0 l.length = l.toArray := by
       have := @Array.extract_size _ l.toArray
       rwa [List.size_toArray] at this
      rw [e1, e2] at hperm
      exact hperm
    · rw [List.pairwise_iff_getElem]
      intro i j hi hj hij
      have hi' : i < d'.size := by simpa using hi
      have hj' : j < d'.size := by simpa using hj
      have := hso i j (Nat.zero_le _) hij zq7
      rw [getElem!_pos d' j hj', getElem!_pos d' i hi'] at this
      rw [Array.getElem_toList, Array.getElem_toList]
      refine YtkjgnnhpjcofiaaGreatDoorX.nless_le fun z => ?_
      rw [← cfF_neg] at z
      have hz : ltOf cfF d'[j] d'[i] = true := z
      rw [hz] at this
      cases this
   obtain ⟨m, rfl⟩ : ∃ m : List FileT, d' = m.toArray := ⟨d'.toList, by simp⟩
   have hml : m.length = l.length := by simpa using hsz
   have hd : m = sortF l := by simpa using hd
   rw [hd] at hml ⊢
   have hz := row_putK (enc := encF) (k := 3) (q := n) (m := sortF l) (fun _ => rfl) zq13 (ho) hml
   have hb := grow_anyK (putRowK encF 3 (Sort.ahead w n) g 0 (sortF l).toArray) os
   refine ⟨rfl, ?_, fun w0 B h hB => ?_, fun i hi hne => sortWK_other i hi (fun z => hne (by rw [z]; rfl)), sortWK_size⟩
   · have hz2 := pw_own_below hz hb
     exact R_of_flat flatF (by rw [hml]; exact hz2)
   · have hp := Lib.below_putRow (enc := (id : Value → Value)) (q := n) (d := flatK encF 3 (sortF l).toArray) h (Nat.le_trans hB hbg)
     exact ⟨hp.os, hp.tape, hp.output, Nat.le_trans hp.size hb.size, fun k hk => by
      have hw : (putRowK encF 3 (Sort.ahead w n) g 0 (sortF l).toArray).heap.size = w.heap.size := size_putRowK _ _ _ _ _ _
      show (grow (putRowK encF 3 (Sort.ahead w n) g 0 (sortF l).toArray) os).heap[k]? = _
      rw [hb.block k (by rw [hw]; have hh := h.size; omega)]
      exact hp.block k hk⟩
end Go.Proofs.YtkjgnnhpjcofiaaGreatDoor.PX.X
