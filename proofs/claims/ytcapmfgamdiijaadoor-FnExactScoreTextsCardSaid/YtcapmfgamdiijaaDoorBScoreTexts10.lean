/- Texts of this claim set one behind another by wip/bundle.py: XTab. -/
import Derived.Test.YtcapmfgamdiijaaDoorBScoreTexts5
import Derived.Test.YtcapmfgamdiijaaDoorBScoreTexts7
import Derived.Test.YtcapmfgamdiijaaDoorBScoreTexts9
import Derived.Lib.Hide
namespace Go.Proofs.YtcapmfgamdiijaaDoor.PX.X
open Go Go.RowKit Go.Lib Go.Proofs.YtcapmfgamdiijaaDoorW.PrintWords Go.Proofs.YtcapmfgamdiijaaDoor.PX
set_option linter.unusedVariables false
set_option linter.unusedSimpArgs false
def rowV (m b : Nat) : Value := .slice (some ⟨b, 0, none⟩) m m
def rowsC (f : Nat → Nat) (kk m : Nat) : List Value := (List.range kk).map fun i => rowV m (f i)
structure Tab (w : World) (B : Nat) (v : Value) (nn kk m : Nat) (f : Nat → Nat) (T : Nat → Nat → Int) : Prop where
  own : w.ownsRow B 153 1 v nn (rowsC f kk m ++ List.replicate (nn - kk) (.slice none 0 0))
  le : kk ≤ nn
  row : ∀ i, i < kk → B ≤ f i ∧ ∃ cells, w.heap[f i]? = some (.cells cells 2 (0, 0)) ∧ cells.size = m ∧ ∀ j, j < m → cells[j]? = some (.int .i64 (T i j))
  inj : ∀ i i', i < kk → i' < kk → f i = f i' → i = i'
theorem rowsC_len (f : Nat → Nat) (kk m : Nat) : (rowsC f kk m).length = kk := by
  unfold rowsC
  rw [List.length_map, List.length_range]
theorem rowsC_get (f : Nat → Nat) (kk m i : Nat) (h : i < kk) : (rowsC f kk m)[i]? = some (rowV m (f i)) := by
  unfold rowsC
  rw [List.getElem?_map, List.getElem?_range h]
  rfl
theorem rowsC_congr {f f' : Nat → Nat} {kk m : Nat} (h : ∀ i, i < kk → f i = f' i) : rowsC f kk m = rowsC f' kk m := by
  unfold rowsC
  apply List.map_congr_left
  intro i hi
  rw [h i (List.mem_range.1 hi)]
theorem rowsC_snoc (f : Nat → Nat) (kk m : Nat) : rowsC f (kk + 1) m = rowsC f kk m ++ [rowV m (f kk)] := by
  unfold rowsC
  rw [List.range_succ, List.map_append]
  rfl
variable {w w1 : World} {B nn kk m : Nat} {v : Value} {f : Nat → Nat} {T : Nat → Nat → Int}
theorem Tab.lt (h : Tab w B v nn kk m f T) {i : Nat} (hi : i < kk) : f i < w.heap.size := by
  obtain ⟨_, cells, hc, _⟩ := h.row i hi
  exact blk_lt hc
theorem Tab.ne (h : Tab w B v nn kk m f T) {i : Nat} (hi : i < kk) : v.ownBlock ≠ some (f i) := by
  intro e
  obtain ⟨cells, hc⟩ := own_typed h.own (f i) e
  obtain ⟨_, cells', hc', _⟩ := h.row i hi
  rw [hc] at hc'
  injection hc' with hc'
  injection hc' with _ hc' _
  exact absurd hc' (by decide)
/-- Whatever keeps the table's blocks keeps the table. -/
theorem Tab.move (h : Tab w B v nn kk m f T) (hm : ∀ k, k < w.heap.size → w1.heap[k]? = w.heap[k]?) : Tab w1 B v nn kk m f T :=
  ⟨own_move h.own (fun k hk => hm k (by
    obtain ⟨cells, hc⟩ := own_typed h.own k hk
    exact blk_lt hc)), h.le, fun i hi => by
    obtain ⟨hb, cells, hc, hr⟩ := h.row i hi
    exact ⟨hb, cells, (hm _ (blk_lt hc)).trans hc, hr⟩, h.inj⟩
theorem Tab.below (h : Tab w B v nn kk m f T) (hb : Below w.heap.size w w1) : Tab w1 B v nn kk m f T := h.move fun k hk => hb.block k hk
theorem Tab.heap (h : Tab w B v nn kk m f T) (e : w1.heap = w.heap) : Tab w1 B v nn kk m f T := h.move fun k _ => by rw [e]
theorem Tab.form (h : Tab w B v nn kk m f T) (h0 : 0 < nn) : ∃ g cap, v = .slice (some ⟨g, 0, none⟩) nn cap ∧ B ≤ g ∧ nn ≤ cap := by
  rcases h.own.2 with ⟨_, e⟩ | ⟨g, cap, cur, e, hb, _, hn, _⟩
  · omega
  · exact ⟨g, cap, e, hb, hn⟩
theorem Tab.ownF (h : Tab w B v kk kk m f T) : w.ownsRow B 153 1 v kk (rowsC f kk m) := by
  have := h.own
  rwa [Nat.sub_self, List.replicate_zero, List.append_nil] at this
/-- The cells of the row of rows. -/
theorem Tab.top {g cap : Nat} (h : Tab w B (.slice (some ⟨g, 0, none⟩) nn cap) nn kk m f T) {i : Nat} (hi : i < kk) : w.cell? ⟨g, i, none⟩ = some (rowV m (f i)) ∧ w.frozen? ⟨g, i, none⟩ = false := by
  rcases h.own.2 with ⟨e, _⟩ | ⟨g', cap', cur, e, hb, hg, hn, hm, hs, ht⟩
  · cases e
  · injection e with e1 _ _
    injection e1 with e1
    injection e1 with e1
    subst e1
    refine ⟨?_, blk_frozen hg i⟩
    have hle := h.le
    have e2 : (cur.toList.take (nn * 1))[i]? = some (rowV m (f i)) := by
      rw [ht, List.getElem?_append_left (by rw [rowsC_len]; exact hi), rowsC_get f kk m i hi]
    rw [List.getElem?_take, if_pos (by omega), Array.getElem?_toList] at e2
    exact (blk_cell hg i).trans e2
theorem Tab.cell (h : Tab w B v nn kk m f T) {i j : Nat} (hi : i < kk) (hj : j < m) : w.cell? ⟨f i, j, none⟩ = some (.int .i64 (T i j)) ∧ w.frozen? ⟨f i, j, none⟩ = false := by
  obtain ⟨_, cells, hc, _, hr⟩ := h.row i hi
  exact ⟨(blk_cell hc j).trans (hr j hj), blk_frozen hc j⟩
def upd (T : Nat → Nat → Int) (i j : Nat) (x : Int) : Nat → Nat → Int := fun a b => if a = i ∧ b = j then x else T a b
/-- A store into a row. -/
theorem Tab.store (h : Tab w B v nn kk m f T) {i j : Nat} (hi : i < kk) (hj : j < m) (x : Int) : Tab (w.setCell ⟨f i, j, none⟩ (.int .i64 x)) B v nn kk m f (upd T i j x) := by
  refine ⟨own_setCell h.own (fun e => h.ne hi e.symm) _, h.le, fun a ha => ?_, h.inj⟩
  obtain ⟨hb, cells, hc, hsz, hr⟩ := h.row a ha
  by_cases e : a = i
  · subst e
    refine ⟨hb, _, blk_set hc j (.int .i64 x), by rw [Array.size_setIfInBounds]; exact hsz, fun b hbm => ?_⟩
    rw [Array.getElem?_setIfInBounds]
    by_cases e2 : j = b
    · subst e2
      rw [if_pos rfl, if_pos (by omega)]
      unfold upd
      rw [if_pos ⟨rfl, rfl⟩]
    · rw [if_neg e2, hr b hbm]
      unfold upd
      rw [if_neg (fun z => e2 z.2.symm)]
  · refine ⟨hb, cells, ?_, hsz, fun b hbm => ?_⟩
    · rw [Below.heap_setCell w ⟨f i, j, none⟩ _ (f a) (fun z => e (h.inj a i ha hi z))]
      exact hc
    · rw [hr b hbm]
      unfold upd
      rw [if_neg (fun z => e z.1)]
/-- A row more: the row of rows has grown by it. -/
theorem Tab.grow {W : World} {v1 : Value} {b : Nat} {cells : Array Value} (h : Tab W B v kk kk m f T) (hown : w1.ownsRow B 153 1 v1 (kk + 1) (rowsC f kk m ++ [rowV m b])) (hg : W.grownBy w1 v.ownBlock) (hb : W.heap[b]? = some (.cells cells 2 (0, 0))) (hB : B ≤ b) (hs : cells.size = m) (hr : ∀ j, j < m → cells[j]? = some (.int .i64 (T kk j))) (hne : ∀ i, i < kk → f i ≠ b) :
    Tab w1 B v1 (kk + 1) (kk + 1) m (fun i => if i = kk then b else f i) T := by
  have hvb : some b ≠ v.ownBlock := by
    intro e
    obtain ⟨c2, hc2⟩ := own_typed h.own b e.symm
    rw [hb] at hc2
    injection hc2 with hc2
    injection hc2 with _ hc2 _
    exact absurd hc2 (by decide)
  refine ⟨?_, Nat.le_refl _, fun i hi => ?_, fun i i' hi hi' e => ?_⟩
  · have e1 : rowsC (fun i => if i = kk then b else f i) (kk + 1) m = rowsC f kk m ++ [rowV m b] := by
      rw [rowsC_snoc, rowsC_congr (f' := f) (fun i hi => if_neg (by omega)), if_pos rfl]
    rw [e1, Nat.sub_self, List.replicate_zero, List.append_nil]
    exact hown
  · by_cases e : i = kk
    · subst e
      rw [if_pos rfl]
      exact ⟨hB, cells, (hg.block b (blk_lt hb) hvb).trans hb, hs, hr⟩
    · rw [if_neg e]
      obtain ⟨h1, c2, h2, h3⟩ := h.row i (by omega)
      exact ⟨h1, c2, (hg.block _ (blk_lt h2) (fun z => h.ne (i := i) (by omega) z.symm)).trans h2, h3⟩
  · by_cases e1 : i = kk <;> by_cases e2 : i' = kk
    · omega
    · simp only [if_pos e1, if_neg e2] at e
      exact absurd e.symm (hne i' (by omega))
    · simp only [if_neg e1, if_pos e2] at e
      exact absurd e (hne i (by omega))
    · simp only [if_neg e1, if_neg e2] at e
      exact h.inj i i' (by omega) (by omega) e
/-- A row put into its place. -/
theorem Tab.put {g cap b : Nat} {cells : Array Value} (h : Tab w B (.slice (some ⟨g, 0, none⟩) nn cap) nn kk m f T) (hk : kk < nn) (hb : w.heap[b]? = some (.cells cells 2 (0, 0))) (hB : B ≤ b) (hs : cells.size = m) (hr : ∀ j, j < m → cells[j]? = some (.int .i64 (T kk j))) (hne : ∀ i, i < kk → f i ≠ b) :
    Tab (w.setCell ⟨g, kk, none⟩ (rowV m b)) B (.slice (some ⟨g, 0, none⟩) nn cap) nn (kk + 1) m (fun i => if i = kk then b else f i) T := by
  have hgf : ∀ i, i < kk → f i ≠ g := fun i hi e => h.ne hi (by rw [e]; rfl)
  have hgb : b ≠ g := by
    intro e
    obtain ⟨c2, hc2⟩ := own_typed h.own b (by rw [e]; rfl)
    rw [hb] at hc2
    injection hc2 with hc2
    injection hc2 with _ hc2 _
    exact absurd hc2 (by decide)
  refine ⟨?_, hk, fun i hi => ?_, fun i i' hi hi' e => ?_⟩
  · rcases h.own with ⟨hl, ⟨e, _⟩ | ⟨g', cap', cur, e, hbg, hg, hn, hmx, hsz, ht⟩⟩
    · cases e
    · injection e with e1 _ e3
      injection e1 with e1
      injection e1 with e1
      subst e1; subst e3
      have e1 : rowsC (fun i => if i = kk then b else f i) (kk + 1) m = rowsC f kk m ++ [rowV m b] := by
        rw [rowsC_snoc, rowsC_congr (f' := f) (fun i hi => if_neg (by omega)), if_pos rfl]
      refine ⟨by rw [List.length_append, rowsC_len, List.length_replicate]; omega, .inr ⟨g, cap, _, rfl, hbg, blk_set hg kk (rowV m b), hn, hmx, by rw [Array.size_setIfInBounds]; exact hsz, ?_⟩⟩
      rw [e1]
      apply List.ext_getElem?
      intro i
      have ht2 : ∀ i : Nat, (cur.toList.take (nn * 1))[i]? = (rowsC f kk m ++ List.replicate (nn - kk) (Value.slice none 0 0))[i]? := fun i => by rw [ht]
      have h2 := ht2 i
      rw [List.getElem?_take] at h2 ⊢
      by_cases hin : i < nn * 1
      · rw [if_pos hin] at h2 ⊢
        rw [Array.getElem?_toList] at h2 ⊢
        rw [Array.getElem?_setIfInBounds]
        by_cases ek : kk = i
        · subst ek
          rw [if_pos rfl, if_pos (by omega), List.append_assoc, List.getElem?_append_right (by rw [rowsC_len]; exact Nat.le_refl _), rowsC_len, Nat.sub_self]
          rfl
        · rw [if_neg ek, h2]
          by_cases hlt : i < kk
          · rw [List.getElem?_append_left (by rw [rowsC_len]; exact hlt), List.append_assoc, List.getElem?_append_left (by rw [rowsC_len]; exact hlt)]
          · rw [List.getElem?_append_right (by rw [rowsC_len]; omega), List.getElem?_append_right (by rw [List.length_append, rowsC_len]; simp; omega), List.length_append, rowsC_len, List.getElem?_replicate, List.getElem?_replicate]
            simp only [List.length_singleton]
            rw [if_pos (by omega), if_pos (by omega)]
      · rw [if_neg hin] at h2 ⊢
        rw [List.getElem?_eq_none (by rw [List.length_append, List.length_append, rowsC_len, List.length_replicate]; simp; omega)]
  · by_cases e : i = kk
    · subst e
      rw [if_pos rfl]
      refine ⟨hB, cells, ?_, hs, hr⟩
      rw [Below.heap_setCell w ⟨g, i, none⟩ _ b hgb]
      exact hb
    · rw [if_neg e]
      obtain ⟨h1, c2, h2, h3⟩ := h.row i (by omega)
      refine ⟨h1, c2, ?_, h3⟩
      rw [Below.heap_setCell w ⟨g, kk, none⟩ _ (f i) (hgf i (by omega))]
      exact h2
  · by_cases e1 : i = kk <;> by_cases e2 : i' = kk
    · omega
    · simp only [if_pos e1, if_neg e2] at e
      exact absurd e.symm (hne i' (by omega))
    · simp only [if_neg e1, if_pos e2] at e
      exact absurd e (hne i (by omega))
    · simp only [if_neg e1, if_neg e2] at e
      exact h.inj i i' (by omega) (by omega) e
theorem Tab.congr {T' : Nat → Nat → Int} (h : Tab w B v nn kk m f T) (e : ∀ i j, i < kk → j < m → T i j = T' i j) : Tab w B v nn kk m f T' :=
  ⟨h.own, h.le, fun i hi => by
    obtain ⟨h1, c, h2, h3, h4⟩ := h.row i hi
    exact ⟨h1, c, h2, h3, fun j hj => by rw [h4 j hj, e i j hi hj]⟩, h.inj⟩
def tabOf (nn m : Nat) (T : Nat → Nat → Int) : List (List Int) := (List.range nn).map fun i => (List.range m).map fun j => T i j
/-- In the printer's words. -/
theorem Tab.toS (h : Tab w B v nn nn m f T) (hm : m ≤ 140737488355328) : Kd.S (Kd.slice 2 (Kd.int .i64)) 153 w B (fun _ => True) v (tabOf nn m T) := by
  classical
  have htag : ∃ f' : Nat → Nat, ∀ j, j < nn → f' (f j) = j := by
    refine ⟨fun k => if h : ∃ i, i < nn ∧ f i = k then h.choose else 0, fun j hj => ?_⟩
    have hex : ∃ i, i < nn ∧ f i = f j := ⟨j, hj, rfl⟩
    simp only [dif_pos hex]
    exact h.inj _ _ hex.choose_spec.1 hj hex.choose_spec.2
  obtain ⟨f', hf'⟩ := htag
  have hlen : (tabOf nn m T).zipIdx.length = nn := by
    unfold tabOf
    rw [List.length_zipIdx, List.length_map, List.length_range]
  have hown := h.own
  rw [Nat.sub_self, List.replicate_zero, List.append_nil] at hown
  refine ⟨f', fun _ _ => trivial, rowsC f nn m, ?_, ?_, ?_⟩
  · rw [hlen]
    exact hown
  · rw [rowsC_len, hlen]
    exact (Nat.mul_one _).symm
  · intro j p hp
    have hj : j < nn := by
      have := (List.getElem?_eq_some_iff.1 hp).1
      omega
    have hpe : p = ((List.range m).map (fun k => T j k), j) := by
      have e : (tabOf nn m T)[j]? = some ((List.range m).map fun k => T j k) := by
        unfold tabOf
        rw [List.getElem?_map, List.getElem?_range hj]
        rfl
      have e2 := Kd.zip_at e
      rw [hp] at e2
      exact Option.some.inj e2
    subst hpe
    have hseg : ((rowsC f nn m).drop (j * 1)).take 1 = [rowV m (f j)] := by
      have hjl : j < (rowsC f nn m).length := by rw [rowsC_len]; exact hj
      rw [Nat.mul_one, List.drop_eq_getElem_cons hjl, List.take_succ_cons, List.take_zero]
      have e := rowsC_get f nn m j hj
      rw [List.getElem?_eq_getElem hjl] at e
      rw [Option.some.inj e]
    obtain ⟨hB, cells, hc, hsz, hr⟩ := h.row j hj
    show ∃ v', ((rowsC f nn m).drop (j * 1)).take 1 = [v'] ∧ _
    refine ⟨rowV m (f j), hseg, ?_, ((List.range m).map fun k => T j k).map (Value.int .i64), ?_, ?_⟩
    · intro k hk
      have e : f j = k := by
        have : some (f j) = some k := hk
        exact Option.some.inj this
      subst e
      exact ⟨⟨trivial, fun e => h.ne hj e.symm⟩, hf' j hj⟩
    · rw [List.length_map, List.length_range]
      refine ⟨?_, .inr ⟨f j, m, cells, rfl, hB, hc, Nat.le_refl _, Nat.le_trans hm (by decide), hsz.trans (Nat.mul_one m).symm, ?_⟩⟩
      · rw [List.length_map, List.length_map, List.length_range]
        exact (Nat.mul_one m).symm
      show cells.toList.take (m * 1) = _
      apply List.ext_getElem?
      intro i
      rw [List.getElem?_take, Array.getElem?_toList, List.getElem?_map, List.getElem?_map]
      by_cases hi : i < m
      · rw [if_pos (by omega), hr i hi, List.getElem?_range hi]
        rfl
      · rw [if_neg (by omega), List.getElem?_eq_none (by simp; omega)]
        rfl
    · exact Kd.reps_scalar (enc := Value.int .i64) _
end Go.Proofs.YtcapmfgamdiijaaDoor.PX.X
