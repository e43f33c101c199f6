/- Texts of this claim set one behind another by wip/bundle.py: XEntries. -/
import Derived.Test.YtjibadlbiapcmaaDoorBRP21
import Derived.Test.YtjibadlbiapcmaaDoorBRP24
import Derived.Test.YtjibadlbiapcmaaDoorBRP13
import Derived.Test.YtjibadlbiapcmaaDoorBRP12
import Derived.Test.YtjibadlbiapcmaaDoorBRP14
namespace Go.Proofs.YtjibadlbiapcmaaDoorX
open Go Go.RowKit Go.Proofs.YtjibadlbiapcmaaDoorW.PrintWords Go.Proofs.YtjibadlbiapcmaaDoor.PX

abbrev LEntry := S74
def entryOk (x : LEntry) : Prop := x.f0.size ≤ 140737488351232 ∧ x.f3.size ≤ 140737488351232
def entryConv (x : LEntry) : IEntry := ⟨x.f0, x.f1, x.f2, x.f3⟩
def entrySmall (x : LEntry) : Prop := x.f0.size ≤ 1048576 ∧ x.f3.size ≤ 1048576

theorem szEntry_tells (x : LEntry) (hx : entryOk x) (left : Int) (h0 : 0 ≤ left) (h1 : left ≤ 1048576) : ∃ r, laws_szEntry.f x.f0 x.f1 x.f2 x.f3 left = some r ∧ r ≤ left ∧ (0 ≤ r → entrySmall x) := by
  obtain ⟨a, b⟩ := hx
  unfold laws_szEntry.f entrySmall
  rw [wrap_in (i := left - _) (by omega) (by omega)]
  by_cases c : left - (x.f0.size : Int) < 0
  · rw [if_pos c]
    exact ⟨_, rfl, by omega, fun z => absurd z (by omega)⟩
  · rw [if_neg c, wrap_in (by omega) (by omega)]
    split
    · exact ⟨_, rfl, by omega, fun z => absurd z (by omega)⟩
    · exact ⟨_, rfl, by omega, fun z => by omega⟩
theorem szEntryS_tells (l : List LEntry) (hl : l.length ≤ 140737488351232) (ho : ∀ x ∈ l, entryOk x) (left : Int) (h0 : 0 ≤ left) (h1 : left ≤ 1048576) (k : Nat) (hk : l.length < k) :
    ∃ r, laws_szEntryS.f k l left = some r ∧ (0 ≤ r → l.length ≤ 1048576 ∧ ∀ x ∈ l, entrySmall x) := by
  unfold laws_szEntryS.f
  rw [wrap_in (by omega) (by omega)]
  split
  · exact ⟨_, rfl, fun z => absurd z (by omega)⟩
  · obtain ⟨r, hr, _, hq⟩ := sz_all (F := laws_szEntryS.l0) (Z := fun x left => laws_szEntry.f x.f0 x.f1 x.f2 x.f3 left) entryOk entrySmall z74 szEntry_tells (fun k xs left i => by rw [laws_szEntryS.l0]; rfl) l hl ho (left - l.length) (by omega) (by omega) k hk
    exact ⟨r, hr, fun z => ⟨by omega, hq z⟩⟩

theorem toEntryS_tells (l : List LEntry) (hl : l.length ≤ 1048576) (k : Nat) (hk : l.length < k) : laws_toEntryS.f k l = some (l.map entryConv) := by
  unfold laws_toEntryS.f
  rw [if_pos (by omega), Int.toNat_natCast, if_pos (by omega)]
  exact to_all (F := laws_toEntryS.l0) entryConv z74 (fun k xs ys i => by rw [laws_toEntryS.l0]; rfl) l (by omega) _ k hk

/-- The place of an entry behind another. -/
def behind (p e : IEntry) : Bool := if p.f0 = e.f0 then decide (p.f1 < e.f1 ∧ p.f1 > 0) else Op.bytesLess p.f0.data.toList e.f0.data.toList
theorem spec_behind (p e : IEntry) : spec_l10Behind.f p.f0 p.f1 p.f2 p.f3 e.f0 e.f1 e.f2 e.f3 = some (behind p e) := by
  unfold spec_l10Behind.f behind
  simp only [toList_iff]
  by_cases h : p.f0 = e.f0
  · rw [if_pos h, if_pos h]
    by_cases h2 : p.f1 < e.f1
    · rw [if_pos h2]; simp [h2]
    · rw [if_neg h2]; simp [h2]
  · rw [if_neg h, if_neg h, toList_eq, toList_eq]

theorem or_two (a b : Int) (k : Nat) (hk : 3 ≤ k) : cmp_Or_int.f k [a, b] = some (if a = 0 then b else a) := by
  obtain ⟨k, rfl⟩ : ∃ m, k = m + 3 := ⟨k - 3, by omega⟩
  unfold cmp_Or_int.f
  simp only [cmp_Or_int.l0, List.length_cons, List.length_nil]
  have w0 : wrap64 ((0 : Int) + 1) = 1 := wrap_in (by omega) (by omega)
  have w1 : wrap64 ((1 : Int) + 1) = 2 := wrap_in (by omega) (by omega)
  simp only [w0, w1, rd]
  by_cases ha : a = 0
  · subst ha
    by_cases hb : b = 0
    · subst hb; simp
    · simp [hb]
  · simp [ha]
theorem cmp_int (a b : Int) : cmp_Compare_int64.f a b = some (if a < b then -1 else if a > b then 1 else 0) := by
  unfold cmp_Compare_int64.f cmp_isNaN_int64.f
  simp
  (repeat' split) <;> rfl
theorem compareEntries_tells (p e : IEntry) (k : Nat) (hk : 3 ≤ k) : ∃ c, impl_compareEntries.f k p.f0 p.f1 p.f2 p.f3 e.f0 e.f1 e.f2 e.f3 = some c ∧ (c < 0 ↔ (if p.f0 = e.f0 then p.f1 < e.f1 else Op.bytesLess p.f0.data.toList e.f0.data.toList = true)) := by
  unfold impl_compareEntries.f
  rw [show strings_Compare.f p.f0 e.f0 = some (Lib.compareBytes p.f0.data.toList e.f0.data.toList) from rfl, Option.bind_some, cmp_int, Option.bind_some, or_two _ _ k hk, Option.bind_some]
  refine ⟨_, rfl, ?_⟩
  have hz := compare_zero p.f0.data.toList e.f0.data.toList
  have hl := compare_less p.f0.data.toList e.f0.data.toList
  by_cases h : p.f0 = e.f0
  · rw [if_pos h, if_pos (hz.2 (by rw [h]))]
    (repeat' split) <;> omega
  · rw [if_neg h, if_neg (fun z => h (toList_inj (by rw [toList_eq, toList_eq]; exact hz.1 z)))]
    exact hl

/-! ### IndexFault -/
def inR (a : Int) : Bool := decide (0 ≤ a) && decide (a ≤ 3)
theorem spec_in (a : Int) : spec_l1In.f a 0 3 = some (inR a) := by
  unfold spec_l1In.f inR
  by_cases h : a ≥ 0
  · rw [if_pos h, decide_eq_true h, Bool.true_and]
  · rw [if_neg h, decide_eq_false (by omega), Bool.false_and]
theorem impl_in (a : Int) : impl_within.f a 0 3 = some (inR a) := spec_in a
theorem spec_mode (a : Int) : spec_l10Mode.f a = some (modeOk a) := impl_mode a
def entryStep (l : List IEntry) (i : Nat) (_ : Unit) : Sum Int Unit :=
  if pathV (entAt l i).f0 = 0 then
    if (inR (entAt l i).f1 && modeOk (entAt l i).f2) = true then
      if isIdOfM 1 (entAt l i).f3.data.toList = true then
        if 0 < i ∧ behind (entAt l (i - 1)) (entAt l i) = false then .inl 1 else .inr ()
      else .inl 1
    else .inl 3
  else .inl 1
def indexV (l : List IEntry) : Int := if l.length > 200 then 2 else run (entryStep l) (fun _ => 0) l.length 0 ()
def iSmall (l : List IEntry) : Prop := ∀ x ∈ l, x.f0.size ≤ 1048576
theorem iSmall_at {l : List IEntry} (h : iSmall l) {i : Nat} (hi : i < l.length) : (entAt l i).f0.size ≤ 1048576 := h _ (getD_mem _ hi)

theorem spec_index (l : List IEntry) (hl : l.length ≤ 1048576) (hs : iSmall l) (k : Nat) (hk : 1048700 + l.length < k) : spec_IndexFault.f (2 * k) l = some (indexV l) := by
  unfold spec_IndexFault.f indexV
  by_cases h200 : l.length > 200
  · rw [if_pos (by omega), if_pos h200]
  rw [if_neg (by omega), if_neg h200]
  refine loop0 (F := fun k i (_ : Unit) => spec_IndexFault.l0 (2 * k) l (i : Int)) l.length 1048700 (fun _ _ => True) (fun _ _ _ _ _ _ => trivial) (fun k i _ hK hi _ => ?_) (fun k _ _ _ => ?_) () trivial k (by omega)
  · show spec_IndexFault.l0 (2 * k + 1 + 1) l (i : Int) = _
    have hp := iSmall_at hs hi
    rw [spec_IndexFault.l0, if_pos (by omega), if_pos (by omega), rd_entry]
    change ((spec_PathFault.f (2 * k + 1) (entAt l i).f0).bind _) = _
    rw [spec_path _ (by omega) (2 * k + 1) (by omega), Option.bind_some]
    unfold entryStep
    by_cases hv : pathV (entAt l i).f0 = 0
    · rw [if_pos hv, if_pos hv]
      change ((spec_l1In.f (entAt l i).f1 0 3).bind _) = _
      rw [spec_in, Option.bind_some]
      have key : ∀ b : Bool, spec_IndexFault.j1 (2 * k + 1) l (i : Int) b (entAt l i).f0 (entAt l i).f1 (entAt l i).f2 (entAt l i).f3 = match (if b = false then (if isIdOfM 1 (entAt l i).f3.data.toList = true then (if 0 < i ∧ behind (entAt l (i - 1)) (entAt l i) = false then (.inl 1 : Sum Int Unit) else .inr ()) else .inl 1) else .inl 3) with | .inl r => some r | .inr s' => spec_IndexFault.l0 (2 * k) l ((i + 1 : Nat) : Int) := by
        intro b
        rw [spec_IndexFault.j1]
        cases b with
        | true => rfl
        | false =>
          rw [if_neg (by decide), if_pos rfl, show spec_l6Is.f (2 * k) (entAt l i).f3 1 = some (isIdOfM 1 (entAt l i).f3.data.toList) from spec_l6Is_tells 1 (by decide) _ _ (by omega), Option.bind_some]
          cases isIdOfM 1 (entAt l i).f3.data.toList with
          | false => rfl
          | true =>
            rw [if_pos rfl, if_pos rfl]
            by_cases hi0 : 0 < i
            · have hw : wrap64 ((i : Int) - 1) = ((i - 1 : Nat) : Int) := by rw [wrap_in (by omega) (by omega)]; omega
              rw [if_pos (by omega), hw, if_pos (by omega), if_pos (by omega), rd_entry]
              change ((spec_l10Behind.f (entAt l (i - 1)).f0 (entAt l (i - 1)).f1 (entAt l (i - 1)).f2 (entAt l (i - 1)).f3 _ _ _ _).bind _) = _
              rw [spec_behind, Option.bind_some, wrap_in (by omega) (by omega)]
              cases behind (entAt l (i - 1)) (entAt l i) with
              | true => rw [if_pos rfl, if_neg (by simp)]; rfl
              | false => rw [if_neg (by simp), if_pos ⟨hi0, rfl⟩]
            · rw [if_neg (by omega), if_neg (fun z => hi0 z.1), wrap_in (by omega) (by omega)]
              rfl
      cases hr : inR (entAt l i).f1 with
      | false =>
        rw [if_neg (by decide)]
        exact key true
      | true =>
        rw [if_pos rfl]
        change ((spec_l10Mode.f (entAt l i).f2).bind _) = _
        rw [spec_mode, Option.bind_some]
        cases hm : modeOk (entAt l i).f2 with
        | false => exact key true
        | true =>
          have e := key false
          rw [if_pos rfl] at e
          rw [Bool.and_self, if_pos rfl, Bool.not_true]
          refine e.trans ?_
          generalize (if isIdOfM 1 (entAt l i).f3.data.toList = true then _ else _ : Sum Int Unit) = g
          cases g <;> rfl
    · rw [if_neg hv, if_neg hv]
      rcases pathV_two (entAt l i).f0 with h | h
      · exact absurd h hv
      · rw [h]
  · show spec_IndexFault.l0 (2 * k + 1 + 1) l (l.length : Int) = _
    rw [spec_IndexFault.l0, if_neg (by omega)]

theorem impl_index (l : List IEntry) (hl : l.length ≤ 1048576) (hs : iSmall l) (k : Nat) (hk : 1048700 + l.length < k) : impl_IndexFault.f (2 * k) l = some (indexV l) := by
  unfold impl_IndexFault.f indexV
  by_cases h200 : l.length > 200
  · rw [if_pos (by omega), if_pos h200]
  rw [if_neg (by omega), if_neg h200]
  refine loop0 (F := fun k i (_ : Unit) => impl_IndexFault.l0 (2 * k) l l (l.length : Int) (i : Int)) l.length 1048700 (fun i _ => ∀ j, j < i → inR (entAt l j).f1 = true) (fun i s s' hi hI hst j hj => ?_) (fun k i _ hK hi hI => ?_) (fun k _ _ _ => ?_) () (fun j hj => absurd hj (by omega)) k (by omega)
  · by_cases e : j = i
    · subst e
      unfold entryStep at hst
      cases hr : inR (entAt l j).f1 with
      | true => rfl
      | false =>
        rw [hr] at hst
        split at hst
        · cases hst
        · cases hst
    · exact hI j (by omega)
  · show impl_IndexFault.l0 (2 * k + 1 + 1) l l (l.length : Int) (i : Int) = _
    have hp := iSmall_at hs hi
    rw [impl_IndexFault.l0, if_pos (by omega), if_pos (by omega), if_pos (by omega), rd_entry]
    change ((impl_PathFault.f (entAt l i).f0).bind _) = _
    rw [impl_path _ (by omega), Option.bind_some]
    unfold entryStep
    by_cases hv : pathV (entAt l i).f0 = 0
    · rw [if_pos hv, if_pos hv]
      change ((impl_within.f (entAt l i).f1 0 3).bind _) = _
      rw [impl_in, Option.bind_some]
      have key : ∀ b : Bool, impl_IndexFault.j1 (2 * k + 1) l (i : Int) l (l.length : Int) (i : Int) b (entAt l i).f0 (entAt l i).f1 (entAt l i).f2 (entAt l i).f3 = match (if b = false then (if isIdOfM 1 (entAt l i).f3.data.toList = true then (if 0 < i ∧ behind (entAt l (i - 1)) (entAt l i) = false then (.inl 1 : Sum Int Unit) else .inr ()) else .inl 1) else .inl 3) with | .inl r => some r | .inr s' => impl_IndexFault.l0 (2 * k) l l (l.length : Int) ((i + 1 : Nat) : Int) := by
        intro b
        rw [impl_IndexFault.j1]
        cases b with
        | true => rfl
        | false =>
          rw [if_neg (by decide), if_pos rfl, show impl_isIdOf.f 1 (entAt l i).f3 = some (isIdOfM 1 (entAt l i).f3.data.toList) from impl_isIdOf_tells 1 (by decide) _, Option.bind_some]
          cases isIdOfM 1 (entAt l i).f3.data.toList with
          | false => rfl
          | true =>
            rw [if_pos rfl, if_pos rfl]
            by_cases hi0 : 0 < i
            · have hw : wrap64 ((i : Int) - 1) = ((i - 1 : Nat) : Int) := by rw [wrap_in (by omega) (by omega)]; omega
              have hin : 0 ≤ (entAt l (i - 1)).f1 := by
                have := hI (i - 1) (by omega)
                unfold inR at this
                simp only [Bool.and_eq_true, decide_eq_true_eq] at this
                exact this.1
              rw [if_pos (by omega), hw, if_pos (by omega), if_pos (by omega), rd_entry]
              change ((impl_compareEntries.f (2 * k) (entAt l (i - 1)).f0 (entAt l (i - 1)).f1 (entAt l (i - 1)).f2 (entAt l (i - 1)).f3 _ _ _ _).bind _) = _
              obtain ⟨c, hc, hcl⟩ := compareEntries_tells (entAt l (i - 1)) (entAt l i) (2 * k) (by omega)
              rw [hc, Option.bind_some, wrap_in (by omega) (by omega)]
              change (if c ≥ 0 then _ else (if (entAt l (i - 1)).f0.toList = (entAt l i).f0.toList then (if (entAt l (i - 1)).f1 = 0 then _ else _) else _)) = _
              simp only [toList_iff]
              unfold behind
              by_cases he : (entAt l (i - 1)).f0 = (entAt l i).f0
              · rw [if_pos he] at hcl
                simp only [if_pos he]
                by_cases h1 : (entAt l (i - 1)).f1 < (entAt l i).f1
                · have := hcl.2 h1
                  rw [if_neg (by omega)]
                  by_cases h0 : (entAt l (i - 1)).f1 = 0
                  · rw [if_pos h0, if_pos ⟨hi0, by rw [decide_eq_false]; omega⟩]
                  · rw [if_neg h0, if_neg (fun z => by have := of_decide_eq_false z.2; omega)]
                    rfl
                · rw [if_pos (by omega), if_pos ⟨hi0, by rw [decide_eq_false]; omega⟩]
              · rw [if_neg he] at hcl
                simp only [if_neg he]
                cases hb : Op.bytesLess (entAt l (i - 1)).f0.data.toList (entAt l i).f0.data.toList with
                | true =>
                  have := hcl.2 hb
                  rw [if_neg (by omega), if_neg (by simp)]
                  rfl
                | false =>
                  rw [if_pos (by have : ¬ c < 0 := fun z => by rw [hb] at hcl; exact absurd (hcl.1 z) (by decide)
                                 omega), if_pos ⟨hi0, rfl⟩]
            · rw [if_neg (by omega), if_neg (fun z => hi0 z.1), wrap_in (by omega) (by omega)]
              rfl
      cases hr : inR (entAt l i).f1 with
      | false =>
        rw [if_neg (by decide)]
        exact key true
      | true =>
        rw [if_pos rfl]
        change ((impl_isFileMode.f (entAt l i).f2).bind _) = _
        rw [impl_mode, Option.bind_some]
        cases hm : modeOk (entAt l i).f2 with
        | false => exact key true
        | true =>
          have e := key false
          rw [if_pos rfl] at e
          rw [Bool.and_self, if_pos rfl, Bool.not_true]
          refine e.trans ?_
          generalize (if isIdOfM 1 (entAt l i).f3.data.toList = true then _ else _ : Sum Int Unit) = g
          cases g <;> rfl
    · rw [if_neg hv, if_neg hv]
  · show impl_IndexFault.l0 (2 * k + 1 + 1) l l (l.length : Int) (l.length : Int) = _
    rw [impl_IndexFault.l0, if_neg (by omega)]
end Go.Proofs.YtjibadlbiapcmaaDoorX
