/- Texts of this claim set one behind another by wip/bundle.py: XRowK, XBsL. -/
import Derived.Test.YtpnoghcdfbmpoaaGreatDoorBIA9
import Derived.Laws.CopyRow
import Derived.Lib.Hide
namespace Go.Proofs.YtpnoghcdfbmpoaaGreatDoor.PX.X
open Go Go.RowKit Go.Proofs.YtpnoghcdfbmpoaaGreatDoorW.PrintWords
set_option linter.unusedVariables false
set_option linter.unusedSimpArgs false
section
variable {α : Type} {enc : α → List Value} {k : Nat}
def flat (enc : α → List Value) (l : List α) : List Value := l.flatMap enc
theorem flat_cons (x : α) (l : List α) : flat enc (x :: l) = enc x ++ flat enc l := rfl
theorem flat_len (hk : ∀ x, (enc x).length = k) : ∀ l : List α, (flat enc l).length = l.length * k
  | [] => (Nat.zero_mul _).symm
  | x :: l => by rw [flat_cons, List.length_append, hk, flat_len hk l, List.length_cons, Nat.add_mul, Nat.one_mul, Nat.add_comm]
theorem flat_append (a b : List α) : flat enc (a ++ b) = flat enc a ++ flat enc b := List.flatMap_append
theorem flat_one (x : α) : flat enc [x] = enc x := by unfold flat; simp
theorem flat_take (hk : ∀ x, (enc x).length = k) (l : List α) (i : Nat) (hi : i ≤ l.length) : flat enc (l.take i) = (flat enc l).take (i * k) := by
  have h : (flat enc (l.take i)).length = i * k := by rw [flat_len hk, List.length_take, Nat.min_eq_left hi]
  have e : flat enc l = flat enc (l.take i) ++ flat enc (l.drop i) := by rw [← flat_append, List.take_append_drop]
  rw [e, ← h, List.take_left]
theorem flat_drop (hk : ∀ x, (enc x).length = k) (l : List α) (i : Nat) (hi : i ≤ l.length) : flat enc (l.drop i) = (flat enc l).drop (i * k) := by
  have h : (flat enc (l.take i)).length = i * k := by rw [flat_len hk, List.length_take, Nat.min_eq_left hi]
  have e : flat enc l = flat enc (l.take i) ++ flat enc (l.drop i) := by rw [← flat_append, List.take_append_drop]
  rw [e, ← h, List.drop_left]
theorem flat_one_cell (h1 : ∀ x, ∀ u ∈ enc x, u.oneCell' = true) (l : List α) : ∀ u ∈ flat enc l, u.oneCell' = true := by
  intro u hu
  obtain ⟨x, _, hx⟩ := List.mem_flatMap.1 hu
  exact h1 x u hx
theorem reps_flat (hk : ∀ x, (enc x).length = k) : ∀ (ps : List α) (cs : List Value), Reps (fun x c => c = enc x) k ps cs → cs = flat enc ps
  | [], cs, h => List.eq_nil_of_length_eq_zero (by have := h.1; simpa using this)
  | p :: ps, cs, h => by
    have h0 := h.2 0 p rfl
    rw [Nat.zero_mul, List.drop_zero] at h0
    have hl := h.1
    rw [List.length_cons, Nat.add_mul, Nat.one_mul] at hl
    have ih := reps_flat hk ps (cs.drop k) ⟨by rw [List.length_drop]; omega, fun j q hj => by
      have := h.2 (j + 1) q (by rw [List.getElem?_cons_succ]; exact hj)
      rw [Nat.add_mul, Nat.one_mul, Nat.add_comm] at this
      rw [List.drop_drop]
      exact this⟩
    rw [flat_cons, ← ih, ← h0, List.take_append_drop]
theorem flat_reps (hk : ∀ x, (enc x).length = k) (ps : List α) : Reps (fun x c => c = enc x) k ps (flat enc ps) := by
  refine ⟨flat_len hk ps, fun j p hj => ?_⟩
  have hlt := (List.getElem?_eq_some_iff.1 hj).1
  rw [← flat_drop hk ps j (Nat.le_of_lt hlt), List.drop_eq_getElem_cons hlt, flat_cons, (List.getElem?_eq_some_iff.1 hj).2, ← hk p, List.take_left]
structure Flat (d : Kd α) (enc : α → List Value) (k : Nat) : Prop where
  sz : d.sz = k
  pos : 0 < k
  len : ∀ x, (enc x).length = k
  one : ∀ x, ∀ u ∈ enc x, u.oneCell' = true
  M : ∀ {w base ok x cs}, d.M w base ok x cs ↔ cs = enc x
  K : ∀ {w x cs}, d.K w x cs ↔ cs = enc x
theorem R_flat {d : Kd α} (F : Flat d enc k) {e : Nat} {w : World} {base : Nat} {ok : Nat → Prop} {v : Value} {xs : List α} (h : d.R e w base ok v xs) : w.ownsRow base e k v xs.length (flat enc xs) := by
  obtain ⟨_, inner, ho, hr⟩ := h
  rw [F.sz] at ho hr
  rw [← reps_flat F.len xs inner (hr.imp_ fun _ _ hp => F.M.1 hp)]
  exact ho
theorem R_of_flat {d : Kd α} (F : Flat d enc k) {e : Nat} {w : World} {base : Nat} {v : Value} {xs : List α} (h : w.ownsRow base e k v xs.length (flat enc xs)) : d.R e w base (fun _ => True) v xs := by
  refine ⟨fun _ _ => trivial, flat enc xs, by rw [F.sz]; exact h, ?_⟩
  rw [F.sz]
  exact (flat_reps F.len xs).imp_ fun _ _ hp => F.M.2 hp
end
section
variable {P : Program}
theorem run_copy_rowk (w : World) (dT sT ty elem : TypeId) (g o dLen dCap : Nat) (a : Addr) (sLen sCap k n : Nat) (cur : Array Value) (t : TypeId) (cs : List Value)
    (hu : P.underlying dT = some (.slice elem)) (hs : (P.info? elem).map (·.size) = some k)
    (hg : w.heap[g]? = some (.cells cur t (0, 0))) (hn : Nat.min sLen dLen = n) (hl : cs.length = n * k)
    (hsrc : ∀ j v, cs[j]? = some v → w.cell? (a.add j) = some v) (hfit : o + cs.length ≤ cur.size) (h1 : ∀ v ∈ cs, v.oneCell' = true) :
    (Builtin.copy_ #[dT, sT] ty #[.slice (some ⟨g, o, none⟩) dLen dCap, .slice (some a) sLen sCap]).run P w =
      .ok (goInt n) (w.setRow g (cur.toList.take o ++ cs ++ cur.toList.drop (o + cs.length)).toArray) := by
  have hll := run_loadCells_list (P := P) w a cs hsrc
  have hst := run_storeCells_at P g o t cs 0 cur w hg (by simpa using hfit) h1
  cases hq : P.info? elem with
  | none => simp [hq] at hs
  | some i =>
    have hi : i.size = k := by simpa [hq] using hs
    simp [Builtin.copy_, run_underlying hu, Builtin.lenOf, Builtin.firstCells, sizeOf, typeInfo, hq, hi, hn, ← hl, hll, hst]
end
/-- In place: the cells from place a on moved by k, then k cells laid there. -/
def shiftRow (cur cs vs : List Value) (a k : Nat) : List Value :=
  let cur1 := cur.take (a + k) ++ cs.drop a ++ cur.drop (a + k + (cs.drop a).length)
  cur1.take a ++ vs ++ cur1.drop (a + vs.length)
theorem shiftRow_len (cur cs vs : List Value) (a k : Nat) (ha : a ≤ cs.length) (hv : vs.length = k) (hc : cs.length + k ≤ cur.length) : (shiftRow cur cs vs a k).length = cur.length := by
  unfold shiftRow
  simp only [List.length_append, List.length_take, List.length_drop]
  omega
theorem shiftRow_take (cur cs vs : List Value) (a k : Nat) (ha : a ≤ cs.length) (hv : vs.length = k) (hc : cs.length + k ≤ cur.length) (ht : cur.take cs.length = cs) : (shiftRow cur cs vs a k).take (cs.length + k) = cs.take a ++ vs ++ cs.drop a := by
  unfold shiftRow
  have h0 : (cur.take (a + k)).length = a + k := by rw [List.length_take]; omega
  have h1 : (cur.take (a + k) ++ cs.drop a ++ cur.drop (a + k + (cs.drop a).length)).take a = cs.take a := by
    rw [List.append_assoc, List.take_append_of_le_length (by omega), List.take_take, Nat.min_eq_left (by omega), ← ht, List.take_take, Nat.min_eq_left (by omega)]
  have h2 : (cur.take (a + k) ++ cs.drop a ++ cur.drop (a + k + (cs.drop a).length)).drop (a + vs.length) = cs.drop a ++ cur.drop (a + k + (cs.drop a).length) := by
    rw [hv, List.append_assoc]
    exact List.drop_left' h0
  show ((cur.take (a + k) ++ cs.drop a ++ cur.drop (a + k + (cs.drop a).length)).take a ++ vs ++ (cur.take (a + k) ++ cs.drop a ++ cur.drop (a + k + (cs.drop a).length)).drop (a + vs.length)).take (cs.length + k) = _
  rw [h1, h2, ← List.append_assoc]
  have h3 : (cs.take a ++ vs ++ cs.drop a).length = cs.length + k := by simp only [List.length_append, List.length_take, List.length_drop]; omega
  rw [← h3, List.take_left]
/-- In a new row: k cells laid at a, then what stood from a on behind them. -/
def newRowK (row cs vs : List Value) (a : Nat) : List Value :=
  let cur1 := row.take a ++ vs ++ row.drop (a + vs.length)
  cur1.take (a + vs.length) ++ cs.drop a ++ cur1.drop (a + vs.length + (cs.drop a).length)
theorem newRowK_len (row cs vs : List Value) (a : Nat) (ha : a ≤ cs.length) (hc : cs.length + vs.length ≤ row.length) : (newRowK row cs vs a).length = row.length := by
  unfold newRowK
  simp only [List.length_append, List.length_take, List.length_drop]
  omega
theorem newRowK_take (row cs vs : List Value) (a : Nat) (ha : a ≤ cs.length) (hc : cs.length + vs.length ≤ row.length) (ht : row.take a = cs.take a) : (newRowK row cs vs a).take (cs.length + vs.length) = cs.take a ++ vs ++ cs.drop a := by
  unfold newRowK
  have h0 : (row.take a ++ vs).length = a + vs.length := by rw [List.length_append, List.length_take]; omega
  have h1 : (row.take a ++ vs ++ row.drop (a + vs.length)).take (a + vs.length) = cs.take a ++ vs := by
    rw [List.take_left' h0, ht]
  show ((row.take a ++ vs ++ row.drop (a + vs.length)).take (a + vs.length) ++ cs.drop a ++ (row.take a ++ vs ++ row.drop (a + vs.length)).drop (a + vs.length + (cs.drop a).length)).take (cs.length + vs.length) = _
  rw [h1]
  have h3 : (cs.take a ++ vs ++ cs.drop a).length = cs.length + vs.length := by simp only [List.length_append, List.length_take, List.length_drop]; omega
  rw [← h3, List.take_left]
section
variable {α : Type} {enc : α → List Value} {k : Nat}
/-- An element of a row that is read: its cells. -/
theorem C_cells {d : Kd α} (F : Flat d enc k) {w : World} {A : Option Addr} {n : Nat} {xs : List α} (h : d.C w A n xs) (i : Nat) (x : α) (hx : xs[i]? = some x) : ∃ ad, A = some ad ∧ ∀ q v, (enc x)[q]? = some v → w.cell? ((ad.add (i * k)).add q) = some v := by
  have hi : i < n := by have := (List.getElem?_eq_some_iff.1 hx).1; have := h.1; omega
  obtain ⟨ad, e0, hc⟩ := h.2.2 (by omega)
  obtain ⟨cs, hl, hK, hcell⟩ := hc i x hx
  refine ⟨ad, e0, fun q v hv => ?_⟩
  have := hcell q v (by rw [F.K.1 hK]; exact hv)
  rw [F.sz] at this
  rw [← this]
  congr 1
  unfold Addr.add
  by_cases h1 : i * k = 0 <;> by_cases h2 : q = 0 <;> simp [h1, h2, Nat.add_assoc]
/-- All cells of a row that is read. -/
theorem C_all {d : Kd α} (F : Flat d enc k) {w : World} {A : Option Addr} {n : Nat} {xs : List α} (h : d.C w A n xs) (hn : 0 < n) : ∃ ad, A = some ad ∧ ∀ j v, (flat enc xs)[j]? = some v → w.cell? (ad.add j) = some v := by
  obtain ⟨ad, e0, hc⟩ := h.2.2 hn
  refine ⟨ad, e0, fun j v hj => ?_⟩
  have hjl := (List.getElem?_eq_some_iff.1 hj).1
  rw [flat_len F.len] at hjl
  have hk := F.pos
  have hi : j / k < xs.length := Nat.div_lt_of_lt_mul (by rw [Nat.mul_comm]; exact hjl)
  obtain ⟨cs, hl, hK, hcell⟩ := hc (j / k) xs[j / k] (List.getElem?_eq_getElem hi)
  have e1 : ((flat enc xs).drop (j / k * k)).take k = enc xs[j / k] := ((flat_reps F.len xs).2 (j / k) _ (List.getElem?_eq_getElem hi))
  have e2 : (enc xs[j / k])[j % k]? = some v := by
    rw [← e1, List.getElem?_take_of_lt (Nat.mod_lt _ hk), List.getElem?_drop]
    rw [show j / k * k + j % k = j from by rw [Nat.mul_comm]; exact Nat.div_add_mod j k]
    exact hj
  have := hcell (j % k) v (by rw [F.K.1 hK]; exact e2)
  rw [F.sz, show j / k * k + j % k = j from by rw [Nat.mul_comm]; exact Nat.div_add_mod j k] at this
  exact this
end
end Go.Proofs.YtpnoghcdfbmpoaaGreatDoor.PX.X

namespace Go.Proofs.YtpnoghcdfbmpoaaGreatDoor.PX.X
set_option linter.unusedVariables false
def bsF (lt : Nat → Bool) : Nat → Nat → Nat → Nat
  | 0, i, _ => i
  | f + 1, i, j => if i < j then (if lt ((i + j) / 2) = true then bsF lt f ((i + j) / 2 + 1) j else bsF lt f i ((i + j) / 2)) else i
theorem bsF_end (lt : Nat → Bool) (f i j : Nat) (h : ¬ i < j) : bsF lt f i j = i := by
  cases f with
  | zero => rfl
  | succ f => exact if_neg h
theorem bsF_up (lt : Nat → Bool) (f i j : Nat) (h : i < j) (hl : lt ((i + j) / 2) = true) : bsF lt (f + 1) i j = bsF lt f ((i + j) / 2 + 1) j := (if_pos h).trans (if_pos hl)
theorem bsF_down (lt : Nat → Bool) (f i j : Nat) (h : i < j) (hl : lt ((i + j) / 2) = false) : bsF lt (f + 1) i j = bsF lt f i ((i + j) / 2) := (if_pos h).trans (if_neg (by rw [hl]; decide))
theorem bsF_le (lt : Nat → Bool) : ∀ (f i j n : Nat), i ≤ n → j ≤ n → bsF lt f i j ≤ n
  | 0, i, j, n, hi, _ => hi
  | f + 1, i, j, n, hi, hj => by
    by_cases h : i < j
    · cases hl : lt ((i + j) / 2) with
      | true => rw [bsF_up lt f i j h hl]; exact bsF_le lt f _ j n (by omega) hj
      | false => rw [bsF_down lt f i j h hl]; exact bsF_le lt f i _ n hi (by omega)
    · rw [bsF_end lt _ i j h]; exact hi
/-- Where the search stops if what is less stands ahead of all else. -/
theorem bsF_cut (lt : Nat → Bool) (m : Nat) : ∀ (f i j : Nat), i ≤ m → m ≤ j → j - i ≤ f → (∀ h, i ≤ h → h < j → (lt h = true ↔ h < m)) → bsF lt f i j = m
  | 0, i, j, hi, hj, hf, _ => by show i = m; omega
  | f + 1, i, j, hi, hj, hf, H => by
    by_cases h : i < j
    · cases hl : lt ((i + j) / 2) with
      | true =>
        have h1 := (H ((i + j) / 2) (by omega) (by omega)).1 hl
        rw [bsF_up lt f i j h hl]
        exact bsF_cut lt m f _ j (by omega) hj (by omega) (fun q h1 h2 => H q (by omega) h2)
      | false =>
        have h1 : ¬ (i + j) / 2 < m := fun z => by
          have := (H ((i + j) / 2) (by omega) (by omega)).2 z
          rw [hl] at this
          cases this
        rw [bsF_down lt f i j h hl]
        exact bsF_cut lt m f i _ hi (by omega) (by omega) (fun q h1 h2 => H q h1 (by omega))
    · rw [bsF_end lt _ i j h]
      omega
section
variable {α : Type}
def bsLt (cf : α → Int) (zs : List α) (h : Nat) : Bool := match zs[h]? with
  | some x => decide (cf x < 0)
  | none => false
def bsAt (cf : α → Int) (zs : List α) : Nat := bsF (bsLt cf zs) zs.length 0 zs.length
def bsHit (cf : α → Int) (zs : List α) : Bool := match zs[bsAt cf zs]? with
  | some x => decide (cf x = 0)
  | none => false
theorem bsLt_at (cf : α → Int) (zs : List α) (h : Nat) (x : α) (hx : zs[h]? = some x) : bsLt cf zs h = decide (cf x < 0) := by
  unfold bsLt
  rw [hx]
theorem bsHit_at (cf : α → Int) (zs : List α) (x : α) (hx : zs[bsAt cf zs]? = some x) : bsHit cf zs = decide (cf x = 0) := by
  unfold bsHit
  rw [hx]
theorem bsHit_none (cf : α → Int) (zs : List α) (hx : zs[bsAt cf zs]? = none) : bsHit cf zs = false := by
  unfold bsHit
  rw [hx]
theorem bsAt_le (cf : α → Int) (zs : List α) : bsAt cf zs ≤ zs.length := bsF_le _ _ _ _ _ (Nat.zero_le _) (Nat.le_refl _)
end
end Go.Proofs.YtpnoghcdfbmpoaaGreatDoor.PX.X
