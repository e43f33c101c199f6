/- FnExactCommitFault over numbers and lists: the program's CommitFault answers what the reference's does. -/
import Derived.Test.YtcapmfgamdiijaaDoorXIds
import Derived.Test.YtcapmfgamdiijaaDoorPXx68
namespace Go.Proofs.YtcapmfgamdiijaaDoorX
open Go Go.RowKit Go.Proofs.YtcapmfgamdiijaaDoorW.PrintWords Go.Proofs.YtcapmfgamdiijaaDoor.PX
set_option linter.unusedVariables false

/-! ### texts in a row: sized, copied, compared -/
def strsOk (l : List ByteArray) : Prop := ∀ x ∈ l, x.size ≤ 140737488351232

theorem szStringS_tells (l : List ByteArray) (hl : l.length ≤ 140737488351232) (ho : strsOk l) (left : Int) (h0 : 0 ≤ left) (h1 : left ≤ 1048576) (k : Nat) (hk : l.length < k) :
    ∃ r, laws_szStringS.f k l left = some r ∧ r ≤ left ∧ (0 ≤ r → l.length ≤ 1048576 ∧ ∀ x ∈ l, x.size ≤ 1048576) := by
  unfold laws_szStringS.f
  rw [wrap_in (by omega) (by omega)]
  split
  · exact ⟨-1, rfl, by omega, fun h => by omega⟩
  · obtain ⟨r, hr, hle, hq⟩ := sz_all (F := laws_szStringS.l0) (Z := fun x left => some (wrap64 (left - (x.size : Int)))) (fun x => x.size ≤ 140737488351232) (fun x => x.size ≤ 1048576) ByteArray.empty
      (fun x hx left h0 h1 => ⟨left - x.size, by rw [wrap_in (by omega) (by omega)], by omega, fun h => by omega⟩) (fun k xs left i => by simp only [laws_szStringS.l0, rdOf]; rfl) l hl ho (left - (l.length : Int)) (by omega) (by omega) k hk
    exact ⟨r, hr, by omega, fun h => ⟨by omega, hq h⟩⟩

theorem toStringS_tells (l : List ByteArray) (hl : l.length ≤ 1048576) (k : Nat) (hk : l.length < k) : laws_toStringS.f k l = some l := by
  unfold laws_toStringS.f
  rw [if_pos (by omega), if_pos (by omega), Int.toNat_natCast]
  have := to_all (F := laws_toStringS.l0) (fun x : ByteArray => x) ByteArray.empty (fun k xs ys i => by simp only [laws_toStringS.l0, rdOf]) l (by omega) (⟨#[]⟩ : ByteArray) k hk
  rw [List.map_id'] at this
  exact this

theorem eqStringS_same (l : List ByteArray) (hl : l.length ≤ 1048576) (k : Nat) (hk : l.length < k) : laws_eqStringS.f k l l = some true := by
  unfold laws_eqStringS.f
  rw [if_pos rfl]
  refine eq_all (F := laws_eqStringS.l0) (E := fun x y => some (decide (x.toList = y.toList))) ByteArray.empty (fun x y => ⟨_, rfl, by rw [decide_eq_true_iff]; exact toList_iff⟩) (fun k xs ys i => ?_) l (by omega) k hk
  simp only [laws_eqStringS.l0, rdOf, Option.bind_some, decide_eq_true_eq]
  rfl

/-! ### notes -/
def noteStep (s : ByteArray) (fin : Bool) (i : Nat) (_ : Unit) : Sum Bool Unit := if bt s (i : Int) < 32 ∨ bt s (i : Int) > 126 then .inl false else .inr ()
def noteM (s : ByteArray) : Bool := if s.size > 60 then false else run (noteStep s true) (fun _ => true) s.size 0 ()

theorem spec_note (s : ByteArray) (k : Nat) (hk : s.size < k) : spec_l6Note.f k s = some (noteM s) := by
  unfold spec_l6Note.f noteM
  by_cases h : s.size > 60
  · rw [if_pos (by omega), if_pos h]
  rw [if_neg (by omega), if_neg h]
  refine loop0 (F := fun k i (_ : Unit) => spec_l6Note.l0 k s (i : Int)) s.size 0 (fun _ _ => True) (fun _ _ _ _ _ _ => trivial) (fun k i _ _ hi _ => ?_) (fun k _ _ _ => ?_) () trivial k (by omega)
  · simp only [spec_l6Note.l0]
    rw [if_pos (by omega), if_pos (by omega), wrap_in (by omega) (by omega)]
    unfold noteStep
    by_cases h1 : bt s (i : Int) < 32
    · rw [if_pos h1, if_pos (.inl h1)]
    · rw [if_neg h1]
      by_cases h2 : bt s (i : Int) > 126
      · rw [if_pos h2, if_pos (.inr h2)]
      · rw [if_neg h2, if_neg (by omega)]; rfl
  · simp only [spec_l6Note.l0]
    rw [if_neg (by omega)]

theorem impl_note (s : ByteArray) (hs : s.size ≤ 1048576) (k : Nat) (hk : s.size < k) : impl_isNote.f k s = some (noteM s) := by
  unfold impl_isNote.f
  have := loop0 (F := fun k i (_ : Unit) => impl_isNote.l0 k s (s.size : Int) (i : Int)) (step := noteStep s true) (fin := fun _ => decide ((s.size : Int) ≤ 60)) s.size 0 (fun _ _ => True) (fun _ _ _ _ _ _ => trivial) (fun k i _ _ hi _ => by
    simp only [impl_isNote.l0]
    rw [if_pos (by omega), if_pos (by omega), if_pos (by omega), wrap_in (by omega) (by omega)]
    unfold noteStep
    by_cases h1 : bt s (i : Int) < 32
    · rw [if_pos h1, if_pos (.inl h1)]
    · rw [if_neg h1]
      by_cases h2 : bt s (i : Int) > 126
      · rw [if_pos h2, if_pos (.inr h2)]
      · rw [if_neg h2, if_neg (by omega)]; rfl) (fun k _ _ _ => by
    simp only [impl_isNote.l0]
    rw [if_neg (by omega)]) () trivial k (by omega)
  refine this.trans ?_
  unfold noteM
  congr 1
  by_cases h : s.size > 60
  · rw [if_pos h]
    have e : ∀ d i, run (noteStep s true) (fun _ => decide ((s.size : Int) ≤ 60)) d i () = false := by
      intro d
      induction d with
      | zero => intro i; rw [run_zero]; exact decide_eq_false (by omega)
      | succ d ih =>
        intro i
        rw [run]
        cases hx : noteStep s true i () with
        | inl r =>
          unfold noteStep at hx
          split at hx
          · injection hx with hx; exact hx.symm
          · cases hx
        | inr u => exact ih (i + 1)
    exact e _ _
  · rw [if_neg h, show decide ((s.size : Int) ≤ 60) = true from decide_eq_true (by omega)]

/-! ### one of the texts ahead -/
def hasStep (l : List ByteArray) (p : ByteArray) (i : Nat) (_ : Unit) : Sum Bool Unit := if l.getD i ByteArray.empty = p then .inl true else .inr ()
/-- Is p among the first n of l? -/
def hasM (l : List ByteArray) (p : ByteArray) (n : Nat) : Bool := run (hasStep l p) (fun _ => false) n 0 ()

theorem hasM_iff (l : List ByteArray) (p : ByteArray) (n : Nat) : hasM l p n = true ↔ ∃ i, i < n ∧ l.getD i ByteArray.empty = p := by
  have key : ∀ d i, run (hasStep l p) (fun _ => false) d i () = true ↔ ∃ j, i ≤ j ∧ j < i + d ∧ l.getD j ByteArray.empty = p := by
    intro d
    induction d with
    | zero => intro i; rw [run_zero]; exact ⟨fun h => (by cases h), fun ⟨j, h1, h2, _⟩ => (by omega)⟩
    | succ d ih =>
      intro i
      by_cases h : l.getD i ByteArray.empty = p
      · rw [run_out (r := true) (by unfold hasStep; rw [if_pos h])]
        exact ⟨fun _ => ⟨i, by omega, by omega, h⟩, fun _ => rfl⟩
      · rw [run_on (s' := ()) (by unfold hasStep; rw [if_neg h]), ih]
        constructor
        · rintro ⟨j, h1, h2, h3⟩; exact ⟨j, by omega, by omega, h3⟩
        · rintro ⟨j, h1, h2, h3⟩
          have : j ≠ i := fun e => h (e ▸ h3)
          exact ⟨j, by omega, by omega, h3⟩
  have := key n 0
  unfold hasM
  rw [this]
  exact ⟨fun ⟨j, _, h2, h3⟩ => ⟨j, by omega, h3⟩, fun ⟨j, h2, h3⟩ => ⟨j, by omega, by omega, h3⟩⟩

theorem index_tells (l : List ByteArray) (p : ByteArray) (hl : l.length ≤ 1048576) (k : Nat) (hk : l.length < k) :
    ∃ r : Int, slices_Index_string_string.f k l p = some r ∧ (0 ≤ r ↔ p ∈ l) ∧ -1 ≤ r := by
  unfold slices_Index_string_string.f
  let step : Nat → Unit → Sum Int Unit := fun i _ => if p = l.getD i ByteArray.empty then .inl (i : Int) else .inr ()
  have h := loop0 (F := fun k i (_ : Unit) => slices_Index_string_string.l0 k l p (l.length : Int) (i : Int)) (step := step) (fin := fun _ => -1) l.length 0 (fun _ _ => True) (fun _ _ _ _ _ _ => trivial) (fun k i _ _ hi _ => by
    simp only [slices_Index_string_string.l0]
    rw [if_pos (by omega), if_pos (by omega), if_pos (by omega), wrap_in (by omega) (by omega), rdOf_nat]
    by_cases c : p = l.getD i ByteArray.empty
    · rw [if_pos (by rw [← c]), show step i () = .inl (i : Int) from if_pos c]
    · rw [if_neg (fun e => c (toList_inj e)), show step i () = .inr () from if_neg c]; rfl) (fun k _ _ _ => by
    simp only [slices_Index_string_string.l0]
    rw [if_neg (by omega)]) () trivial k (by omega)
  refine ⟨_, h, ?_⟩
  have key : ∀ d i, i + d = l.length → (0 ≤ run step (fun _ => (-1 : Int)) d i () ↔ p ∈ l.drop i) ∧ -1 ≤ run step (fun _ => (-1 : Int)) d i () := by
    intro d
    induction d with
    | zero =>
      intro i hi
      rw [run_zero, List.drop_of_length_le (by omega)]
      simp
    | succ d ih =>
      intro i hi
      have hlt : i < l.length := by omega
      have e : l.getD i ByteArray.empty = l[i] := by simp [List.getD_eq_getElem?_getD, hlt]
      rw [List.drop_eq_getElem_cons hlt]
      by_cases c : p = l.getD i ByteArray.empty
      · rw [run_out (r := (i : Int)) (if_pos c)]
        exact ⟨⟨fun _ => by rw [← e, ← c]; exact List.mem_cons_self, fun _ => by omega⟩, by omega⟩
      · rw [run_on (s' := ()) (if_neg c)]
        obtain ⟨h1, h2⟩ := ih (i + 1) (by omega)
        refine ⟨?_, h2⟩
        rw [h1, List.mem_cons]
        exact ⟨.inr, fun h => h.resolve_left (fun e' => c (by rw [e]; exact e'))⟩
  have := key l.length 0 (by omega)
  simpa using this

theorem contains_tells (l : List ByteArray) (p : ByteArray) (hl : l.length ≤ 1048576) (k : Nat) (hk : l.length < k) : ∃ b, slices_Contains_string_string.f k l p = some b ∧ (b = true ↔ p ∈ l) := by
  obtain ⟨r, hr, h1, h2⟩ := index_tells l p hl k hk
  unfold slices_Contains_string_string.f
  rw [hr]
  exact ⟨_, rfl, by rw [decide_eq_true_iff]; exact h1⟩

/-! ### the codes -/
theorem firstCode_two (a b : Int) (k : Nat) (hk : 3 ≤ k) : impl_firstCode.f k [a, b] = some (if a = 0 then b else a) := by
  obtain ⟨k, rfl⟩ : ∃ m, k = m + 3 := ⟨k - 3, by omega⟩
  unfold impl_firstCode.f
  simp only [impl_firstCode.l0, List.length_cons, List.length_nil]
  have w0 : wrap64 ((0 : Int) + 1) = 1 := wrap_in (by omega) (by omega)
  have w1 : wrap64 ((1 : Int) + 1) = 2 := wrap_in (by omega) (by omega)
  simp only [w0, w1, rd]
  by_cases ha : a = 0
  · subst ha
    by_cases hb : b = 0
    · subst hb; simp
    · simp [hb]
  · simp [ha]

theorem commit_spec (tree : ByteArray) (ps : List ByteArray) (time : Int) (note : ByteArray) (hn : note.size ≤ 1048576) (hl : ps.length ≤ 3) :
    ∀ (d i k : Nat), ps.length - i = d → i ≤ ps.length → note.size + 20 + 5 * d < k →
    ∃ r, spec_CommitFault.l0 k (i : Int) tree ps time note = some r ∧ impl_CommitFault.l0 k ps (ps.length : Int) (i : Int) tree ps time note = some r := by
  intro d
  induction d with
  | zero =>
    intro i k hd hi hk
    obtain ⟨k, rfl⟩ : ∃ m, k = m + 1 := ⟨k - 1, by omega⟩
    simp only [spec_CommitFault.l0, impl_CommitFault.l0]
    rw [if_neg (by omega), if_neg (by omega)]
    unfold spec_l1In.f impl_within.f impl_codeIf.f
    rw [spec_note note k (by omega), impl_note note hn k (by omega)]
    by_cases h1 : time ≥ 0
    · rw [if_pos h1]
      simp only [Option.bind_some]
      by_cases h2 : time ≤ 1000000000
      · cases hb : noteM note <;> simp [h2, firstCode_two _ _ k (show 3 ≤ k by omega)]
      · cases hb : noteM note <;> simp [h2, firstCode_two _ _ k (show 3 ≤ k by omega)]
    · rw [if_neg h1]
      simp only [Option.bind_some]
      cases hb : noteM note <;> simp [firstCode_two _ _ k (show 3 ≤ k by omega)]
  | succ d ih =>
    intro i k hd hi hk
    obtain ⟨k, rfl⟩ : ∃ m, k = m + 1 := ⟨k - 1, by omega⟩
    simp only [spec_CommitFault.l0, impl_CommitFault.l0]
    rw [if_pos (by omega), if_pos (by omega), if_pos (by omega), if_pos (by omega), if_pos (by omega)]
    have g1 : spec_l6Is.f k (rdOf ByteArray.empty ps (i : Int)) 3 = _ := spec_l6Is_tells 3 (by omega) _ k (by omega)
    have g2 : impl_isIdOf.f 3 (rdOf ByteArray.empty ps (i : Int)) = _ := impl_isIdOf_tells 3 (by omega) _
    rw [g1, g2]
    simp only [Option.bind_some]
    cases hid : isIdOfM 3 (rdOf ByteArray.empty ps (i : Int)).data.toList with
    | false => exact ⟨1, by simp, by simp⟩
    | true =>
      simp only [if_true]
      rw [if_pos (by omega)]
      -- the inner loop
      have inner : ∀ (e j k : Nat), i - j = e → j ≤ i → note.size + 20 + 5 * d + 1 + e < k →
          ((∃ m, j ≤ m ∧ m < i ∧ ps.getD m ByteArray.empty = ps.getD i ByteArray.empty) → spec_CommitFault.l1 k (i : Int) (j : Int) tree ps time note = some 1) ∧
          (¬ (∃ m, j ≤ m ∧ m < i ∧ ps.getD m ByteArray.empty = ps.getD i ByteArray.empty) → spec_CommitFault.l1 k (i : Int) (j : Int) tree ps time note = spec_CommitFault.l0 (k - (e + 1)) ((i : Int) + 1) tree ps time note) := by
        intro e
        induction e with
        | zero =>
          intro j k he hj hk
          obtain ⟨k, rfl⟩ : ∃ m, k = m + 1 := ⟨k - 1, by omega⟩
          simp only [spec_CommitFault.l1]
          rw [if_neg (by omega), wrap_in (by omega) (by omega)]
          refine ⟨?_, fun _ => rfl⟩
          rintro ⟨m, h1, h2, _⟩
          omega
        | succ e ihe =>
          intro j k he hj hk
          obtain ⟨k, rfl⟩ : ∃ m, k = m + 1 := ⟨k - 1, by omega⟩
          simp only [spec_CommitFault.l1]
          rw [if_pos (by omega), if_pos (by omega), if_pos (by omega), if_pos (by omega), if_pos (by omega), rdOf_nat, rdOf_nat, wrap_in (by omega) (by omega)]
          by_cases c : ps.getD j ByteArray.empty = ps.getD i ByteArray.empty
          · rw [if_pos (by rw [c])]
            exact ⟨fun _ => rfl, fun h => absurd ⟨j, by omega, by omega, c⟩ h⟩
          · rw [if_neg (fun h => c (toList_inj h)), show ((j : Int) + 1) = ((j + 1 : Nat) : Int) from rfl]
            obtain ⟨i1, i2⟩ := ihe (j + 1) k (by omega) (by omega) (by omega)
            refine ⟨?_, fun h => ?_⟩
            · rintro ⟨m, h1, h2, h3⟩
              have : m ≠ j := fun e' => c (e' ▸ h3)
              exact i1 ⟨m, by omega, h2, h3⟩
            · rw [i2 (fun ⟨m, h1, h2, h3⟩ => h ⟨m, by omega, h2, h3⟩), Nat.add_sub_add_right]
      have hin := inner i 0 k (by omega) (by omega) (by omega)
      obtain ⟨b, hb, hbi⟩ := contains_tells (ps.take (i : Int).toNat) (rdOf ByteArray.empty ps (i : Int)) (by rw [List.length_take]; omega) k (by rw [List.length_take]; omega)
      rw [hb]
      simp only [Option.bind_some]
      have hmem : (b = true) ↔ ∃ m, 0 ≤ m ∧ m < i ∧ ps.getD m ByteArray.empty = ps.getD i ByteArray.empty := by
        rw [hbi, rdOf_nat, Int.toNat_natCast, List.mem_iff_getElem]
        constructor
        · rintro ⟨m, hm, he⟩
          rw [List.length_take] at hm
          refine ⟨m, by omega, by omega, ?_⟩
          rw [← he, List.getElem_take]
          simp [List.getD_eq_getElem?_getD, show m < ps.length by omega]
        · rintro ⟨m, _, hm, he⟩
          refine ⟨m, by rw [List.length_take]; omega, ?_⟩
          rw [← he, List.getElem_take]
          simp [List.getD_eq_getElem?_getD, show m < ps.length by omega]
      cases b with
      | true => exact ⟨1, hin.1 (hmem.1 rfl), by simp⟩
      | false =>
        have hno : ¬ ∃ m, 0 ≤ m ∧ m < i ∧ ps.getD m ByteArray.empty = ps.getD i ByteArray.empty := fun h => (by have := hmem.2 h; cases this)
        have hl1 := hin.2 hno
        clear hno hmem hbi hin inner
        rw [if_neg (show ¬ (false = true) by decide), wrap_in (by omega) (by omega)]
        obtain ⟨r, h1, h2⟩ := ih (i + 1) (k - (i + 1)) (by omega) (by omega) (by omega)
        refine ⟨r, hl1.trans h1, ?_⟩
        -- more rounds tell the same
        have hm := at_rounds (g := fun k => impl_CommitFault.l0 k ps (ps.length : Int) ((i + 1 : Nat) : Int) tree ps time note) (fun k => by
          have := impl_CommitFault.mono_l k
          exact this _ _ _ _ _ _ _) (show k - (i + 1) ≤ k by omega) h2
        exact hm

theorem commitFault_both (tree : ByteArray) (ps : List ByteArray) (time : Int) (note : ByteArray) (hn : note.size ≤ 1048576) (k : Nat) (hk : note.size + 40 ≤ k) :
    ∃ r, spec_CommitFault.f k tree ps time note = some r ∧ impl_CommitFault.f k tree ps time note = some r := by
  unfold spec_CommitFault.f impl_CommitFault.f
  have g1 : spec_l6Is.f k tree 2 = _ := spec_l6Is_tells 2 (by omega) _ k (by omega)
  have g2 : impl_isIdOf.f 2 tree = _ := impl_isIdOf_tells 2 (by omega) _
  rw [g1, g2]
  simp only [Option.bind_some]
  cases hid : isIdOfM 2 tree.data.toList with
  | false => exact ⟨1, by simp, by simp⟩
  | true =>
    simp only [if_true]
    by_cases h : (ps.length : Int) > 3
    · rw [if_pos h]; exact ⟨2, rfl, by rw [if_pos h]⟩
    · rw [if_neg h, if_neg h]
      exact commit_spec tree ps time note hn (by omega) ps.length 0 k (by omega) (by omega) (by omega)

theorem commitFault_pure (tree : ByteArray) (ps : List ByteArray) (time : Int) (note : ByteArray) (h0 : tree.size ≤ 140737488351232) (h1 : ps.length * 16 ≤ 140737488351232 ∧ strsOk ps) (h2 : (Go.Lit.int .i64 time).wf = true) (h3 : note.size ≤ 140737488351232) :
    ∃ k, laws_FnExactCommitFault.f k tree ps time note = some true := by
  refine ⟨ps.length + note.size + 41, ?_⟩
  generalize hK : ps.length + note.size + 41 = k
  unfold laws_FnExactCommitFault.f laws_szCommit.f
  rw [wrap_in (i := 1048576 - (tree.size : Int)) (by omega) (by omega)]
  by_cases c1 : 1048576 - (tree.size : Int) < 0
  · rw [if_pos c1]; rfl
  rw [if_neg c1]
  obtain ⟨r, hr, hle, hq⟩ := szStringS_tells ps (by omega) h1.2 (1048576 - (tree.size : Int)) (by omega) (by omega) k (by omega)
  rw [hr]
  simp only [Option.bind_some]
  by_cases c2 : r < 0
  · rw [if_pos c2]; rfl
  rw [if_neg c2, wrap_in (i := r - (note.size : Int)) (by omega) (by omega)]
  by_cases c3 : r - (note.size : Int) < 0
  · rw [if_pos c3]; rfl
  rw [if_neg c3]
  simp only [Option.bind_some]
  rw [if_neg c3]
  obtain ⟨q1, q2⟩ := hq (by omega)
  have ht : laws_toCommit.f k tree ps time note = some (tree, ps, time, note) := by
    unfold laws_toCommit.f
    rw [toStringS_tells ps q1 k (by omega)]
    rfl
  rw [ht]
  simp only [Option.bind_some]
  obtain ⟨z, z1, z2⟩ := commitFault_both tree ps time note (by omega) k (by omega)
  rw [z1]
  simp only [Option.bind_some]
  rw [z2]
  simp only [Option.bind_some, if_true]
  unfold laws_eqCommit.f
  rw [if_pos rfl, eqStringS_same ps q1 k (by omega)]
  simp
end Go.Proofs.YtcapmfgamdiijaaDoorX
