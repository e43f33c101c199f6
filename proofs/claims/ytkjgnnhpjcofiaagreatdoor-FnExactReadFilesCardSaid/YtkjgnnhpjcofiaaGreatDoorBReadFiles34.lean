/- Texts of this claim set one behind another by wip/bundle.py: XTreeF, XDecode, XTreeD. -/
import Derived.Test.YtkjgnnhpjcofiaaGreatDoorBReadFiles26
import Derived.Test.YtkjgnnhpjcofiaaGreatDoorBReadFiles14
import Derived.Test.YtkjgnnhpjcofiaaGreatDoorBReadFiles29
import Derived.Test.YtkjgnnhpjcofiaaGreatDoorBReadFiles19
import Derived.Test.YtkjgnnhpjcofiaaGreatDoorBReadFiles33
namespace Go.Proofs.YtkjgnnhpjcofiaaGreatDoorX
open Go Go.RowKit Go.Proofs.YtkjgnnhpjcofiaaGreatDoorW.PrintWords Go.Proofs.YtkjgnnhpjcofiaaGreatDoor.PX
set_option linter.unusedVariables false
set_option linter.unusedSimpArgs false
abbrev ITree := X.TE
def treeAt (l : List ITree) (i : Nat) : ITree := l.getD i z118
theorem rd_tree (l : List ITree) (i : Nat) : rd_T118 l (i : Int) = treeAt l i := by
 unfold treeAt
 show l.getD ((i : Int)).toNat _ = _
 rw [Int.toNat_natCast]
def tSmall (l : List ITree) : Prop := ∀ x ∈ l, x.f0.size ≤ 1048576 ∧ x.f2.size ≤ 1048576
theorem up1 (n : Nat) (h : n < 9223372036854775807) : wrap64 ((n : Int) + 1) = ((n + 1 : Nat) : Int) := (wrap_in zq7 zq7).trans zq7
def tModes (l : List ITree) : Prop := ∀ x ∈ l, X.modeIn x.f1 = true
theorem modeB_le (m : Int) : (X.modeB m).size ≤ 4 := by
 unfold X.modeB
 (repeat' split) <;> decide
theorem lineB_size (x : ITree) : (X.lineB x).data.toList.length = (X.modeB x.f1).size + x.f2.size + x.f0.size + 3 := by
 rw [← size_list]
 unfold X.lineB
 simp only [ByteArray.size_append]
 have z1 : (⟨#[32]⟩ : ByteArray).size = 1 := rfl
 have z2 : (⟨#[10]⟩ : ByteArray).size = 1 := rfl
 omega
theorem treeL_le : ∀ (l : List ITree), tSmall l → (X.treeL l).length ≤ l.length * 2097160
 | [], _ => Nat.le_refl _
 | x :: l, h => by
   have h1 := treeL_le l (fun y hy => h y (List.mem_cons_of_mem _ hy))
   have h2 := h x List.mem_cons_self
   have h3 := modeB_le x.f1
   have h4 := lineB_size x
   have e : X.treeL (x :: l) = (X.lineB x).data.toList ++ X.treeL l := by unfold X.treeL; rw [List.flatMap_cons]
   rw [e, List.length_append, List.length_cons]
   omega
theorem treeL_succ (l : List ITree) (i : Nat) (hi : i < l.length) : X.treeL (l.take (i + 1)) = X.treeL (l.take i) ++ (X.lineB (treeAt l i)).data.toList := by
 unfold treeAt X.treeL
 rw [List.take_succ_eq_append_getElem hi, List.getD_eq_getElem?_getD, List.getElem?_eq_getElem hi, Option.getD_some, List.flatMap_append]
 simp
theorem treeL_part (l : List ITree) (i : Nat) : (X.treeL (l.take i)).length ≤ (X.treeL l).length := by
 have h1 : X.treeL l = X.treeL (l.take i) ++ X.treeL (l.drop i) := by
  unfold X.treeL
  rw [← List.flatMap_append, List.take_append_drop]
 rw [h1, List.length_append]
 omega
theorem mkB_size (l : List UInt8) : (mkB l).size = l.length := List.size_toArray
theorem tree_out (l : List ITree) (i : Nat) (hi : i < l.length) : ((((((mkB (X.treeL (l.take i)) ++ X.modeB (treeAt l i).f1) ++ (⟨#[32]⟩ : ByteArray)) ++ (treeAt l i).f2) ++ (⟨#[32]⟩ : ByteArray)) ++ (treeAt l i).f0) ++ (⟨#[10]⟩ : ByteArray)) = mkB (X.treeL (l.take (i + 1))) := by
 refine ByteArray.ext ?_
 unfold mkB
 rw [treeL_succ l i hi]
 simp [X.lineB, ByteArray.data_append, Array.append_assoc]
theorem words_at (m : Int) (h : X.modeIn m = true) : 0 ≤ m ∧ m < 4 ∧ rdOf ByteArray.empty [(⟨#[]⟩ : ByteArray), ⟨#[102, 105, 108, 101]⟩, ⟨#[114, 117, 110]⟩, ⟨#[116, 114, 101, 101]⟩] m = X.modeB m := by
 unfold X.modeIn at h
 simp only [Bool.or_eq_true, decide_eq_true_eq] at h
 rcases h with rfl | rfl | rfl
 · exact ⟨by decide, by decide, rfl⟩
 · exact ⟨by decide, by decide, rfl⟩
 · exact ⟨by decide, by decide, rfl⟩
theorem tree_mem (l : List ITree) (i : Nat) (hi : i < l.length) : treeAt l i ∈ l := getD_mem _ hi
theorem spec_tree_from (l : List ITree) (hm : tModes l) (hn : (X.treeL l).length ≤ 140737488355328) (hl : l.length ≤ 1048576) : ∀ (d i : Nat), i + d = l.length → ∀ k, d < k → spec_l6Tree.l0 k l (mkB (X.treeL (l.take i))) (i : Int) = some (mkB (X.treeL l))
 | 0, i, hi, k, hk => by
   obtain ⟨k, rfl⟩ : ∃ m, k = m + 1 := ⟨k - 1, by omega⟩
   rw [spec_l6Tree.l0, if_neg zq7, List.take_of_length_le zq7]
 | d + 1, i, hi, k, hk => by
   obtain ⟨k, rfl⟩ : ∃ m, k = m + 1 := ⟨k - 1, by omega⟩
   have hlt : i < l.length := by omega
   obtain ⟨w1, w2, w3⟩ := words_at _ (hm _ (tree_mem l i hlt))
   have ho := tree_out l i hlt
   have hp := treeL_part l (i + 1)
   rw [treeL_succ l i hlt, List.length_append, lineB_size] at hp
   have z1 : (⟨#[32]⟩ : ByteArray).size = 1 := rfl
   have z0 := mkB_size (X.treeL (l.take i))
   have ih := spec_tree_from l hm hn hl d (i + 1) zq7 k zq7
   rw [spec_l6Tree.l0, if_pos zq7]
   unfold spec_l6Words.f
   rw [Option.bind_some, rd_tree, if_pos zq7, if_pos w1, if_pos (show (treeAt l i).f1 < ((([(⟨#[]⟩ : ByteArray), ⟨#[102, 105, 108, 101]⟩, ⟨#[114, 117, 110]⟩, ⟨#[116, 114, 101, 101]⟩] : List ByteArray).length : Nat) : Int) from w2), w3, up1 i zq7]
   rw [if_pos zq7, if_pos zq31, if_pos zq31, if_pos zq31, if_pos zq31, if_pos zq31, ho, ih]
theorem spec_tree_text (l : List ITree) (hm : tModes l) (hn : (X.treeL l).length ≤ 140737488355328) (hl : l.length ≤ 1048576) (k : Nat) (hk : l.length < k) : spec_l6Tree.f k l = some (mkB (X.treeL l)) :=
 spec_tree_from l hm hn hl l.length 0 zq7 k hk
theorem impl_tree_text (l : List ITree) (hm : tModes l) (hn : (X.treeL l).length ≤ 140737488355328) (hl : l.length ≤ 1048576) : impl_treeText.f l = some (mkB (X.treeL l)) := by
 unfold impl_treeText.f
 rw [if_pos (by
  unfold impl_treeText.ok
  simp only [Bool.and_eq_true, decide_eq_true_eq, List.all_eq_true]
  exact ⟨hn, by omega, hm⟩)]
 rfl
def inM (a : Int) : Bool := decide (1 ≤ a) && decide (a ≤ 3)
theorem spec_inM (a : Int) : spec_l1In.f a 1 3 = some (inM a) := by
 unfold spec_l1In.f inM
 by_cases h : a ≥ 1
 · rw [if_pos h, decide_eq_true h, Bool.true_and]
 · rw [if_neg h, decide_eq_false zq7, Bool.false_and]
theorem impl_inM (a : Int) : impl_within.f a 1 3 = some (inM a) := spec_inM a
theorem inM_mode {a : Int} (h : inM a = true) : X.modeIn a = true := by
 unfold inM at h
 unfold X.modeIn
 simp only [Bool.and_eq_true, decide_eq_true_eq, Bool.or_eq_true] at h ⊢
 omega
def kindM (a : Int) : Nat := if a = 3 then 2 else 1
theorem kindM_in (a : Int) : 1 ≤ kindM a ∧ kindM a ≤ 3 := by unfold kindM; split <;> decide
theorem impl_kindT (a : Int) : impl_kindAt.f a = some ((kindM a : Nat) : Int) := by
 unfold impl_kindAt.f kindM
 split <;> rfl
def treeStep (l : List ITree) (i : Nat) (_ : Unit) : Sum Int Unit :=
 if nameM (treeAt l i).f0.data.toList = true then
  if inM (treeAt l i).f1 = true then
   if isIdOfM (kindM (treeAt l i).f1) (treeAt l i).f2.data.toList = true then
    if 0 < i ∧ Op.bytesLess (treeAt l (i - 1)).f0.toList (treeAt l i).f0.toList = false then .inl 1 else .inr ()
   else .inl 1
  else .inl 3
 else .inl 1
def treeV (l : List ITree) : Int := if l.length > 100 then 2 else run (treeStep l) (fun _ => textV (mkB (X.treeL l))) l.length 0 ()
theorem step_mode (l : List ITree) (i : Nat) (s' : Unit) (h : treeStep l i () = .inr s') : X.modeIn (treeAt l i).f1 = true := by
 unfold treeStep at h
 split at h
 · split at h
   · rename_i h2
     exact inM_mode h2
   · cases h
 · cases h
def okTo (l : List ITree) (i : Nat) : Prop := ∀ j, j < i → X.modeIn (treeAt l j).f1 = true
theorem okTo_next (l : List ITree) (i : Nat) (s s' : Unit) (h : okTo l i) (hst : treeStep l i s = .inr s') : okTo l (i + 1) := by
 intro j hj
 by_cases e : j = i
 · subst e
   exact step_mode l j s' hst
 · exact h j zq7
theorem okTo_modes (l : List ITree) (h : okTo l l.length) : tModes l := by
 intro x hx
 obtain ⟨j, hj, rfl⟩ := List.mem_iff_getElem.1 hx
 have := h j hj
 unfold treeAt at this
 rwa [List.getD_eq_getElem?_getD, List.getElem?_eq_getElem hj, Option.getD_some] at this
theorem spec_tree (l : List ITree) (hl : l.length ≤ 1048576) (hs : tSmall l) (k : Nat) (hk : 2100 + l.length < k) : spec_TreeFault.f k l = some (treeV l) := by
 unfold spec_TreeFault.f treeV
 by_cases h100 : l.length > 100
 · rw [if_pos zq7, if_pos h100]
 have hle := treeL_le l hs
 rw [if_neg zq7, if_neg h100]
 refine loop0 (F := fun k i (_ : Unit) => spec_TreeFault.l0 k l (i : Int)) l.length 2100 (fun i _ => okTo l i) (fun i s s' hi hI hst => okTo_next l i s s' hI hst) (fun k i _ hK hi _ => ?_) (fun k _ hK hI => ?_) () (fun j hj => absurd hj (Nat.not_lt_zero _)) k zq7
 · show spec_TreeFault.l0 (k + 1) l (i : Int) = _
   rw [spec_TreeFault.l0, if_pos zq7, if_pos zq7, rd_tree]
   change ((spec_NameFault.f k (treeAt l i).f0).bind _) = _
   rw [spec_name _ k zq7, Option.bind_some, up1 i zq7]
   unfold treeStep
   cases nameM (treeAt l i).f0.data.toList with
   | false => rfl
   | true =>
     rw [if_pos rfl, if_pos rfl, if_pos rfl]
     change ((spec_l1In.f (treeAt l i).f1 1 3).bind _) = _
     rw [spec_inM, Option.bind_some]
     cases hin : inM (treeAt l i).f1 with
     | false => rfl
     | true =>
       rw [if_pos rfl, if_pos rfl]
       have key : ∀ kd : Nat, 1 ≤ kd ∧ kd ≤ 3 → ((spec_l6Is.f k (treeAt l i).f2 (kd : Int)).bind fun t => (if t = true then (if (i : Int) > 0 then (if 0 ≤ (wrap64 ((i : Int) - 1)) then (if (wrap64 ((i : Int) - 1)) < (l.length : Int) then (if ((Op.bytesLess (((rd_T118 l (wrap64 ((i : Int) - 1))).f0).toList) ((treeAt l i).f0.toList)) = true) then (spec_TreeFault.l0 k l ((i + 1 : Nat) : Int)) else (some 1)) else (none)) else (none)) else (spec_TreeFault.l0 k l ((i + 1 : Nat) : Int))) else (some 1))) = (match (if isIdOfM kd (treeAt l i).f2.data.toList = true then (if 0 < i ∧ Op.bytesLess (treeAt l (i - 1)).f0.toList (treeAt l i).f0.toList = false then (.inl 1 : Sum Int Unit) else .inr ()) else .inl 1) with | .inl r => some r | .inr s' => spec_TreeFault.l0 k l ((i + 1 : Nat) : Int)) := by
        intro kd hkd
        rw [spec_l6Is_tells kd hkd _ k zq7, Option.bind_some]
        cases isIdOfM kd (treeAt l i).f2.data.toList with
        | false => rfl
        | true =>
          rw [if_pos rfl, if_pos rfl]
          by_cases hi0 : 0 < i
          · have hw : wrap64 ((i : Int) - 1) = ((i - 1 : Nat) : Int) := by rw [wrap_in zq7 zq7]; omega
            rw [if_pos zq7, hw, if_pos zq7, if_pos zq7, rd_tree]
            cases Op.bytesLess (treeAt l (i - 1)).f0.toList (treeAt l i).f0.toList with
            | true => rw [if_pos rfl, if_neg zq16]
            | false => rw [if_neg zq16, if_pos ⟨hi0, rfl⟩]
          · rw [if_neg zq7, if_neg (fun z => hi0 z.1)]
       have hk2 := key 2 zq13
       have hk1 := key 1 zq13
       by_cases h3 : (treeAt l i).f1 = 3
       · have e : kindM (treeAt l i).f1 = 2 := if_pos h3
         rw [if_pos h3, e]
         refine hk2.trans ?_
         generalize (if isIdOfM 2 (treeAt l i).f2.data.toList = true then _ else _ : Sum Int Unit) = g
         cases g <;> rfl
       · have e : kindM (treeAt l i).f1 = 1 := if_neg h3
         rw [if_neg h3, e]
         refine hk1.trans ?_
         generalize (if isIdOfM 1 (treeAt l i).f2.data.toList = true then _ else _ : Sum Int Unit) = g
         cases g <;> rfl
 · show spec_TreeFault.l0 (k + 1) l (l.length : Int) = _
   rw [spec_TreeFault.l0, if_neg zq7, spec_tree_text l (okTo_modes l hI) zq7 hl k zq7, Option.bind_some, spec_text _ k zq7, Option.bind_some]
theorem impl_tree (l : List ITree) (hl : l.length ≤ 1048576) (hs : tSmall l) (k : Nat) (hk : 2100 + l.length < k) : impl_TreeFault.f k l = some (treeV l) := by
 unfold impl_TreeFault.f treeV
 by_cases h100 : l.length > 100
 · rw [if_pos zq7, if_pos h100]
 have hle := treeL_le l hs
 rw [if_neg zq7, if_neg h100]
 refine loop0 (F := fun k i (_ : Unit) => impl_TreeFault.l0 k l l (l.length : Int) (i : Int)) l.length 2100 (fun i _ => okTo l i) (fun i s s' hi hI hst => okTo_next l i s s' hI hst) (fun k i _ hK hi _ => ?_) (fun k _ hK hI => ?_) () (fun j hj => absurd hj (Nat.not_lt_zero _)) k zq7
 · show impl_TreeFault.l0 (k + 1) l l (l.length : Int) (i : Int) = _
   rw [impl_TreeFault.l0, if_pos zq7, if_pos zq7, if_pos zq7, rd_tree]
   change ((impl_NameFault.f k (treeAt l i).f0).bind _) = _
   rw [impl_name _ k zq7, Option.bind_some, up1 i zq7]
   unfold treeStep
   cases nameM (treeAt l i).f0.data.toList with
   | false => rfl
   | true =>
     rw [if_pos rfl, if_pos rfl, if_pos rfl]
     change ((impl_within.f (treeAt l i).f1 1 3).bind _) = _
     rw [impl_inM, Option.bind_some]
     cases hin : inM (treeAt l i).f1 with
     | false => rfl
     | true =>
       rw [if_pos rfl, if_pos rfl]
       change ((impl_kindAt.f (treeAt l i).f1).bind _) = _
       rw [impl_kindT, Option.bind_some, impl_isIdOf_tells (kindM (treeAt l i).f1) (kindM_in _), Option.bind_some]
       cases isIdOfM (kindM (treeAt l i).f1) (treeAt l i).f2.data.toList with
       | false => rfl
       | true =>
         rw [if_pos rfl, if_pos rfl]
         by_cases hi0 : 0 < i
         · have hw : wrap64 ((i : Int) - 1) = ((i - 1 : Nat) : Int) := by rw [wrap_in zq7 zq7]; omega
           rw [if_pos zq7, hw, if_pos zq7, if_pos zq7, rd_tree]
           cases Op.bytesLess (treeAt l (i - 1)).f0.toList (treeAt l i).f0.toList with
           | true => rw [if_pos rfl, if_neg zq16]
           | false => rw [if_neg zq16, if_pos ⟨hi0, rfl⟩]
         · rw [if_neg zq7, if_neg (fun z => hi0 z.1)]
 · show impl_TreeFault.l0 (k + 1) l l (l.length : Int) (l.length : Int) = _
   rw [impl_TreeFault.l0, if_neg zq7, impl_tree_text l (okTo_modes l hI) zq7 hl, Option.bind_some, impl_text, Option.bind_some]
theorem ln_flatT : ∀ l, (lnL l).flatten = l
 | [] => rfl
 | b :: l => by
   have ih := ln_flatT l
   unfold lnL
   split
   · rename_i h
     rw [List.flatten_cons, ih, h]
     rfl
   · split
     · rename_i h
       rw [h] at ih
       rw [← ih]
       rfl
     · rename_i p ps h
       rw [h, List.flatten_cons] at ih
       rw [List.flatten_cons, List.cons_append, ih]
theorem ln_endT : ∀ l : List UInt8, (l = [] ∨ l.getLast? = some 10) → ∀ p ∈ lnL l, p.getLast? = some 10
 | [], _, p, hp => by cases hp
 | b :: l, h, p, hp => by
   have hl : l = [] ∨ l.getLast? = some 10 := by
    rcases h with h | h
    · cases h
    · cases l with
      | nil => exact .inl rfl
      | cons c l => exact .inr (by rwa [List.getLast?_cons_cons] at h)
   unfold lnL at hp
   split at hp
   · rcases List.mem_cons.1 hp with rfl | hp
     · rfl
     · exact ln_endT l hl p hp
   · rename_i hb
     split at hp
     · rename_i hn
       have e : l = [] := by
        have := ln_flatT l
        rw [hn] at this
        exact this.symm
       subst e
       rcases h with h | h
       · cases h
       · exact absurd (Option.some.inj h) hb
     · rename_i q qs hq
       have hq' : q ∈ lnL l := by rw [hq]; exact List.mem_cons_self
       rcases List.mem_cons.1 hp with rfl | hp
       · have h1 := ln_endT l hl q hq'
         cases q with
         | nil => cases h1
         | cons c q => rw [List.getLast?_cons_cons]; exact h1
       · exact ln_endT l hl p (by rw [hq]; exact List.mem_cons_of_mem _ hp)
def modeN (w : ByteArray) : Int := if w = ⟨#[102, 105, 108, 101]⟩ then 1 else if w = ⟨#[114, 117, 110]⟩ then 2 else if w = ⟨#[116, 114, 101, 101]⟩ then 3 else 0
theorem modeN_word (w : ByteArray) (h : X.modeIn (modeN w) = true) : X.modeB (modeN w) = w := by
 unfold modeN at h ⊢
 split
 · rename_i e; rw [e]; rfl
 · split
   · rename_i e; rw [e]; rfl
   · split
     · rename_i e; rw [e]; rfl
     · rename_i h1 h2 h3
       rw [if_neg h1, if_neg h2, if_neg h3] at h
       cases h
def ents : List (List UInt8) → Option ITree
 | [a, b, c] => some ⟨mkB c, modeN (mkB a), mkB b⟩
 | _ => none
def cutLT (p : List UInt8) : List UInt8 := if p.getLast? = some 10 then p.dropLast else p
def lineS (p : List UInt8) : Option ITree := if p.getLast? = some 10 then ents (spL p.dropLast) else none
def lineI (p : List UInt8) : Option ITree := (ents (spL (cutLT p))).bind fun e => if e.f1 = 0 then none else some e
theorem last_cutT {p : List UInt8} (h : p.getLast? = some 10) : p.dropLast ++ [10] = p := by
 have hne : p ≠ [] := fun z => by rw [z] at h; cases h
 rw [List.getLast?_eq_some_getLast hne] at h
 have := Option.some.inj h
 rw [← this]
 exact List.dropLast_concat_getLast hne
theorem line_text {p : List UInt8} {e : ITree} (h : lineS p = some e) (hm : X.modeIn e.f1 = true) : (X.lineB e).data.toList = p := by
 unfold lineS at h
 split at h
 · rename_i hl
   have hj := spL_join p.dropLast
   unfold ents at h
   split at h
   · rename_i a b c hs
     obtain rfl := Option.some.inj h
     rw [hs] at hj
     have hw := modeN_word _ hm
     unfold X.lineB
     rw [show X.modeB (⟨mkB c, modeN (mkB a), mkB b⟩ : ITree).f1 = mkB a from hw]
     rw [← last_cutT hl, ← hj]
     simp [joinS, mkB, ByteArray.data_append]
   · cases h
 · cases h
theorem text_of : ∀ (ls : List (List UInt8)) (es : List ITree), ls.mapM lineS = some es → tModes es → X.treeL es = ls.flatten
 | [], es, h, _ => by
   have : es = [] := by simpa using h.symm
   subst this
   rfl
 | p :: ls, es, h, hm => by
   rw [List.mapM_cons] at h
   cases h1 : lineS p with
   | none => rw [h1] at h; cases h
   | some e =>
     cases h2 : ls.mapM lineS with
     | none => rw [h1, h2] at h; cases h
     | some es' =>
       rw [h1, h2] at h
       have : e :: es' = es := Option.some.inj h
       subst this
       have ih := text_of ls es' h2 (fun x hx => hm x (List.mem_cons_of_mem _ hx))
       have := line_text h1 (hm e List.mem_cons_self)
       rw [List.flatten_cons, ← ih, ← this]
       rfl
theorem mapM_same : ∀ (ls : List (List UInt8)) (es : List ITree), ls.mapM lineS = some es → tModes es → ls.mapM lineI = some es
 | [], es, h, _ => h
 | p :: ls, es, h, hm => by
   rw [List.mapM_cons] at h
   cases h1 : lineS p with
   | none => rw [h1] at h; cases h
   | some e =>
     cases h2 : ls.mapM lineS with
     | none => rw [h1, h2] at h; cases h
     | some es' =>
       rw [h1, h2] at h
       have : e :: es' = es := Option.some.inj h
       subst this
       have ih := mapM_same ls es' h2 (fun x hx => hm x (List.mem_cons_of_mem _ hx))
       have he : lineI p = some e := by
        unfold lineS at h1
        split at h1
        · rename_i hl
          unfold lineI cutLT
          rw [if_pos hl, h1, Option.bind_some, if_neg]
          intro z
          have := hm e List.mem_cons_self
          rw [z] at this
          cases this
        · cases h1
       rw [List.mapM_cons, he, ih]
       rfl
theorem mapM_back : ∀ (ls : List (List UInt8)) (es : List ITree), (∀ p ∈ ls, p.getLast? = some 10) → ls.mapM lineI = some es → ls.mapM lineS = some es
 | [], es, _, h => h
 | p :: ls, es, hl, h => by
   rw [List.mapM_cons] at h
   cases h1 : lineI p with
   | none => rw [h1] at h; cases h
   | some e =>
     cases h2 : ls.mapM lineI with
     | none => rw [h1, h2] at h; cases h
     | some es' =>
       rw [h1, h2] at h
       have : e :: es' = es := Option.some.inj h
       subst this
       have ih := mapM_back ls es' (fun q hq => hl q (List.mem_cons_of_mem _ hq)) h2
       have he : lineS p = some e := by
        have hp := hl p List.mem_cons_self
        unfold lineI cutLT at h1
        rw [if_pos hp] at h1
        unfold lineS
        rw [if_pos hp]
        cases hx : ents (spL p.dropLast) with
        | none => rw [hx] at h1; cases h1
        | some e' =>
          rw [hx, Option.bind_some] at h1
          split at h1
          · cases h1
          · exact h1
       rw [List.mapM_cons, he, ih]
       rfl
theorem treeL_end : ∀ (es : List ITree), X.treeL es = [] ∨ (X.treeL es).getLast? = some 10 := by
 intro es
 rcases List.eq_nil_or_concat es with rfl | ⟨es', e, rfl⟩
 · exact .inl rfl
 · right
   have h : X.treeL (es'.concat e) = X.treeL es' ++ (X.lineB e).data.toList := by
    unfold X.treeL
    rw [List.concat_eq_append, List.flatMap_append]
    simp
   have h2 : (X.lineB e).data.toList = ((((X.modeB e.f1 ++ (⟨#[32]⟩ : ByteArray)) ++ e.f2) ++ (⟨#[32]⟩ : ByteArray)) ++ e.f0).data.toList ++ [10] := by
    unfold X.lineB
    rw [ByteArray.data_append, Array.toList_append]
   rw [h, h2, ← List.append_assoc, List.getLast?_concat]
def specD (D : List UInt8) : Int × List ITree := match (lnL D).mapM lineS with | some es => if treeV es = 0 then (0, es) else (5, []) | none => (5, [])
def implD (D : List UInt8) : Int × List ITree := match (lnL D).mapM lineI with | some es => if treeV es = 0 then (if X.treeL es = D then (0, es) else (5, [])) else (5, []) | none => (5, [])
theorem treeV_tModes (l : List ITree) (h : treeV l = 0) : tModes l := by
 unfold treeV at h
 by_cases h100 : l.length > 100
 · rw [if_pos h100] at h
   cases h
 · rw [if_neg h100] at h
   have hne : ∀ i r, treeStep l i () = .inl r → r ≠ 0 := by
    intro i r h
    unfold treeStep at h
    split at h
    · split at h
      · split at h
        · split at h
          · have := Sum.inl.inj h
            omega
          · cases h
        · have := Sum.inl.inj h
          omega
      · have := Sum.inl.inj h
        omega
    · have := Sum.inl.inj h
      omega
   have key : ∀ (d i : Nat), run (treeStep l) (fun _ => textV (mkB (X.treeL l))) d i () = 0 → ∀ j, i ≤ j → j < i + d → treeStep l j () = .inr () := by
    intro d
    induction d with
    | zero => intro i _ j h1 h2; exact absurd h2 zq7
    | succ d ih =>
      intro i h j h1 h2
      cases hs : treeStep l i () with
      | inl r =>
        rw [run_out hs] at h
        exact absurd h (hne i r hs)
      | inr s =>
        rw [run_on hs] at h
        by_cases e : j = i
        · rw [e]; exact hs
        · exact ih (i + 1) h j zq7 zq7
   exact okTo_modes l (fun j hj => step_mode l j () (key l.length 0 h j (Nat.zero_le _) zq7))
theorem decode_same (D : List UInt8) : implD D = specD D := by
 unfold implD specD
 cases hS : (lnL D).mapM lineS with
 | some es =>
   by_cases hv : treeV es = 0
   · have hm := treeV_tModes es hv
     rw [mapM_same _ _ hS hm]
     show (if treeV es = 0 then _ else _) = (if treeV es = 0 then _ else _)
     rw [if_pos hv, if_pos hv, if_pos (by rw [text_of _ _ hS hm, ln_flatT])]
   · show _ = (if treeV es = 0 then _ else _)
     rw [if_neg hv]
     cases hI : (lnL D).mapM lineI with
     | none => rfl
     | some es' =>
       show (if treeV es' = 0 then _ else _) = _
       by_cases hv' : treeV es' = 0
       · rw [if_pos hv']
         by_cases ht : X.treeL es' = D
         · have hl := ln_endT D (ht ▸ treeL_end es')
           have := mapM_back _ _ hl hI
           rw [hS] at this
           have := Option.some.inj this
           rw [this] at hv
           exact absurd hv' hv
         · rw [if_neg ht]
       · rw [if_neg hv']
 | none =>
   cases hI : (lnL D).mapM lineI with
   | none => rfl
   | some es' =>
     show (if treeV es' = 0 then _ else _) = (5, [])
     by_cases hv' : treeV es' = 0
     · rw [if_pos hv']
       by_cases ht : X.treeL es' = D
       · have hl := ln_endT D (ht ▸ treeL_end es')
         have := mapM_back _ _ hl hI
         rw [hS] at this
         cases this
       · rw [if_neg ht]
     · rw [if_neg hv']
end Go.Proofs.YtkjgnnhpjcofiaaGreatDoorX

namespace Go.Proofs.YtkjgnnhpjcofiaaGreatDoorX.TD
open Go Go.RowKit Go.Proofs.YtkjgnnhpjcofiaaGreatDoorW.PrintWords Go.Proofs.YtkjgnnhpjcofiaaGreatDoor.PX
set_option linter.unusedVariables false
set_option linter.unusedSimpArgs false
theorem last_get {p : List UInt8} (hne : p ≠ []) : p.getLast? = some (p.getD (p.length - 1) 0) := by
 have hpos := List.length_pos_iff.2 hne
 rw [List.getLast?_eq_getElem?, List.getD_eq_getElem?_getD, List.getElem?_eq_getElem zq7, Option.getD_some]
theorem size_mkB (p : List UInt8) : (mkB p).size = p.length := List.size_toArray
theorem wrap_down (n : Nat) (h0 : 0 < n) (h : n < 9223372036854775807) : wrap64 ((n : Int) - 1) = ((n - 1 : Nat) : Int) := (wrap_in zq7 zq7).trans zq7
theorem extract_init (p : List UInt8) : (mkB p).extract 0 (p.length - 1) = mkB p.dropLast := by
 apply mkB_of
 rw [extract_list, List.drop_zero, Nat.sub_zero, List.dropLast_eq_take]
 rfl
theorem spec_unline (p : List UInt8) (hne : p ≠ []) (hs : p.length ≤ 1048576) : spec_l6Unline.f (mkB p) = some (if p.getLast? = some 10 then (mkB p.dropLast, true) else ((⟨#[]⟩ : ByteArray), false)) := by
 have hpos := List.length_pos_iff.2 hne
 unfold spec_l6Unline.f
 rw [size_mkB, wrap_down _ hpos zq7, if_neg zq7, if_pos zq7, if_pos zq7, bt_nat, Int.toNat_natCast, extract_init, mkB_list, last_get hne]
 by_cases h : p.getD (p.length - 1) 0 = 10
 · rw [h, if_pos zq13, if_pos zq7, if_pos rfl]
 · rw [if_neg (fun z => h (UInt8.toNat_inj.1 (by
    have : (p.getD (p.length - 1) 0).toNat = 10 := by omega
    rw [this]; rfl))), if_neg (fun z => h (Option.some.inj z))]
theorem spec_modes (x4 : List ITree) (x5 : List ByteArray) (x6 : Int) (w : List ByteArray) (n id : ByteArray) (hw : 0 < w.length) (hl : x4.length < 3518437208883) (k : Nat) :
 spec_l6Untree.l1 (k + 4) x4 x5 x6 w 1 n 0 id = spec_l6Untree.l0 k (x4 ++ [(⟨n, modeN (w.getD 0 ByteArray.empty), id⟩ : ITree)]) x5 (wrap64 (x6 + 1)) := by
 have w1 : wrap64 ((1 : Int) + 1) = 2 := wrap_in zq13 zq13
 have w2 : wrap64 ((2 : Int) + 1) = 3 := wrap_in zq13 zq13
 have w3 : wrap64 ((3 : Int) + 1) = 4 := wrap_in zq13 zq13
 have hr : rdOf ByteArray.empty w 0 = w.getD 0 ByteArray.empty := rfl
 have r1 : rdOf ByteArray.empty [(⟨#[]⟩ : ByteArray), ⟨#[102, 105, 108, 101]⟩, ⟨#[114, 117, 110]⟩, ⟨#[116, 114, 101, 101]⟩] 1 = ⟨#[102, 105, 108, 101]⟩ := rfl
 have r2 : rdOf ByteArray.empty [(⟨#[]⟩ : ByteArray), ⟨#[102, 105, 108, 101]⟩, ⟨#[114, 117, 110]⟩, ⟨#[116, 114, 101, 101]⟩] 2 = ⟨#[114, 117, 110]⟩ := rfl
 have r3 : rdOf ByteArray.empty [(⟨#[]⟩ : ByteArray), ⟨#[102, 105, 108, 101]⟩, ⟨#[114, 117, 110]⟩, ⟨#[116, 114, 101, 101]⟩] 3 = ⟨#[116, 114, 101, 101]⟩ := rfl
 have hz : (0 : Int) < (w.length : Int) := by omega
 have l4 : ((([(⟨#[]⟩ : ByteArray), ⟨#[102, 105, 108, 101]⟩, ⟨#[114, 117, 110]⟩, ⟨#[116, 114, 101, 101]⟩] : List ByteArray).length : Nat) : Int) = 4 := rfl
 simp only [spec_l6Untree.l1, spec_l6Words.f, Option.bind_some, l4, w1, w2, w3, hr, r1, r2, r3, toList_iff, if_pos hz, if_pos hl, show ((1 : Int) < 4) = True from eq_true zq13, show ((2 : Int) < 4) = True from eq_true zq13, show ((3 : Int) < 4) = True from eq_true zq13, show ((4 : Int) < 4) = False from eq_false zq13, show ((0 : Int) ≤ 1) = True from eq_true zq13, show ((0 : Int) ≤ 2) = True from eq_true zq13, show ((0 : Int) ≤ 3) = True from eq_true zq13, if_true, if_false]
 unfold modeN
 generalize w.getD 0 ByteArray.empty = v
 by_cases h1 : v = ⟨#[102, 105, 108, 101]⟩
 · subst h1
   rfl
 · by_cases h2 : v = ⟨#[114, 117, 110]⟩
   · subst h2
     rfl
   · by_cases h3 : v = ⟨#[116, 114, 101, 101]⟩
     · subst h3
       rfl
     · rw [if_neg (fun z => h1 z.symm), if_neg (fun z => h2 z.symm), if_neg (fun z => h3 z.symm), if_neg h1, if_neg h2, if_neg h3]
theorem getD_map (L : List (List UInt8)) (i : Nat) (h : i < L.length) : rdOf ByteArray.empty (L.map mkB) (i : Int) = mkB (L.getD i []) := by
 rw [rdOf_nat, List.getD_eq_getElem?_getD, List.getElem?_map, List.getElem?_eq_getElem h, List.getD_eq_getElem?_getD, List.getElem?_eq_getElem h]
 rfl
theorem drop_at (L : List (List UInt8)) (i : Nat) (h : i < L.length) : L.drop i = L.getD i [] :: L.drop (i + 1) := by
 rw [List.drop_eq_getElem_cons h, List.getD_eq_getElem?_getD, List.getElem?_eq_getElem h, Option.getD_some]
theorem words_map (p : List UInt8) : wordsB (mkB p) = (spL p).map mkB := rfl
theorem three {q : List UInt8} {a b c : List UInt8} (h : spL q = [a, b, c]) : b.length ≤ q.length ∧ c.length ≤ q.length := by
 have hj := spL_join q
 rw [h] at hj
 have : (a ++ 32 :: (b ++ 32 :: c)).length = q.length := congrArg List.length hj
 simp only [List.length_append, List.length_cons] at this
 omega
theorem ents_none {l : List (List UInt8)} (h : l.length ≠ 3) : ents l = none := by
 unfold ents
 split
 · exact absurd rfl h
 · rfl
theorem len_three {l : List (List UInt8)} (h : l.length = 3) : ∃ a b c, l = [a, b, c] := by
 match l, h with
 | [a, b, c], _ => exact ⟨a, b, c, rfl⟩
theorem cut_le (p : List UInt8) : (cutLT p).length ≤ p.length := by
 unfold cutLT
 split
 · rw [List.length_dropLast]; omega
 · exact Nat.le_refl _
theorem tSmall_add {out : List ITree} (h : tSmall out) (n id : ByteArray) (m : Int) (h1 : n.size ≤ 1048576) (h2 : id.size ≤ 1048576) : tSmall (out ++ [(⟨n, m, id⟩ : ITree)]) := by
 intro x hx
 rcases List.mem_append.1 hx with hx | hx
 · exact h x hx
 · rw [List.mem_singleton.1 hx]
   exact ⟨h1, h2⟩
def untree (f : List UInt8 → Option ITree) (t : List ITree → Bool) (out : List ITree) (L : List (List UInt8)) : List ITree × Bool := match L.mapM f with | some es => (out ++ es, t (out ++ es)) | none => ([], false)
theorem untree_nil (f : List UInt8 → Option ITree) (t : List ITree → Bool) (out : List ITree) : untree f t out [] = (out, t out) := by
 unfold untree
 rw [List.mapM_nil]
 show (out ++ [], t (out ++ [])) = _
 rw [List.append_nil]
theorem untree_none {f : List UInt8 → Option ITree} {t : List ITree → Bool} {out : List ITree} {p : List UInt8} {L : List (List UInt8)} (h : f p = none) : untree f t out (p :: L) = ([], false) := by
 unfold untree
 rw [List.mapM_cons, h]
 rfl
theorem untree_some {f : List UInt8 → Option ITree} {t : List ITree → Bool} {out : List ITree} {p : List UInt8} {L : List (List UInt8)} {e : ITree} (h : f p = some e) : untree f t out (p :: L) = untree f t (out ++ [e]) L := by
 unfold untree
 rw [List.mapM_cons, h]
 cases L.mapM f with
 | none => rfl
 | some es =>
   show (out ++ (e :: es), t (out ++ (e :: es))) = (out ++ [e] ++ es, t (out ++ [e] ++ es))
   rw [List.append_assoc]
   rfl
def tOk (l : List ITree) : Bool := treeV l == 0
theorem spec_untree (L : List (List UInt8)) (hL : ∀ p ∈ L, p ≠ [] ∧ p.length ≤ 1048576) (hlen : L.length ≤ 1048576) : ∀ (d i : Nat), i + d = L.length → ∀ (out : List ITree), out.length = i → tSmall out → ∀ k, 6 * d + 2200000 < k →
 spec_l6Untree.l0 k out (L.map mkB) (i : Int) = some (untree lineS tOk out (L.drop i))
 | 0, i, hi, out, ho, hs, k, hk => by
   obtain ⟨k, rfl⟩ : ∃ m, k = m + 1 := ⟨k - 1, by omega⟩
   rw [spec_l6Untree.l0, if_neg (by rw [List.length_map]; omega), spec_tree out zq7 hs k zq7, Option.bind_some, List.drop_eq_nil_of_le zq7, untree_nil]
   rfl
 | d + 1, i, hi, out, ho, hs, k, hk => by
   obtain ⟨k, rfl⟩ : ∃ m, k = m + 6 := ⟨k - 6, by omega⟩
   have hlt : i < L.length := by omega
   have hmem : L.getD i [] ∈ L := getD_mem _ hlt
   obtain ⟨hne, hpl⟩ := hL _ hmem
   rw [drop_at L i hlt, spec_l6Untree.l0, if_pos (by rw [List.length_map]; omega), if_pos zq7, getD_map L i hlt]
   generalize L.getD i [] = p at hne hpl
   rw [spec_unline p hne hpl, Option.bind_some]
   by_cases hp : p.getLast? = some 10
   · rw [if_pos hp]
     have hdl : p.dropLast.length ≤ p.length := by rw [List.length_dropLast]; omega
     rw [spec_words (mkB p.dropLast) (by rw [size_mkB]; omega) (k + 5) (by rw [size_mkB]; omega), Option.bind_some, if_pos rfl, words_map, List.length_map]
     by_cases h3 : (spL p.dropLast).length = 3
     · obtain ⟨a, b, c, habc⟩ := len_three h3
       obtain ⟨hb, hc⟩ := three habc
       rw [habc, show ((([a, b, c] : List (List UInt8)).length : Int) != 3) = false from rfl, spec_l6Untree.j1, if_neg zq13, if_pos (show (2 : Int) < ((([a, b, c] : List (List UInt8)).map mkB).length : Int) from by simp), if_pos (show (1 : Int) < ((([a, b, c] : List (List UInt8)).map mkB).length : Int) from by simp)]
       rw [spec_modes out (L.map mkB) (i : Int) (([a, b, c] : List (List UInt8)).map mkB) _ _ zq16 zq7 k, up1 i zq7]
       have he : lineS p = some (⟨mkB c, modeN (mkB a), mkB b⟩ : ITree) := by
        unfold lineS
        rw [if_pos hp, habc]
        rfl
       rw [untree_some he]
       exact spec_untree L hL hlen d (i + 1) zq7 _ (by rw [List.length_append, ho]; rfl) (tSmall_add hs _ _ _ (by show (mkB c).size ≤ 1048576; rw [size_mkB]; omega) (by show (mkB b).size ≤ 1048576; rw [size_mkB]; omega)) k zq7
     · have e : (((spL p.dropLast).length : Int) != 3) = true := by
        rw [bne_iff_ne]
        omega
       have he : lineS p = none := by
        unfold lineS
        rw [if_pos hp, ents_none h3]
       rw [e, spec_l6Untree.j1, if_pos rfl, untree_none he]
   · rw [if_neg hp]
     have he : lineS p = none := by
      unfold lineS
      rw [if_neg hp]
     rw [spec_words (⟨#[]⟩ : ByteArray) zq13 (k + 5) (by show 0 + 2 < k + 5; omega), Option.bind_some, if_neg zq13, spec_l6Untree.j1, if_pos rfl, untree_none he]
theorem drop_last_one {p : List UInt8} (hne : p ≠ []) : (p.drop (p.length - 1)).take 1 = [p.getD (p.length - 1) 0] := by
 have hpos := List.length_pos_iff.2 hne
 rw [List.drop_eq_getElem_cons zq7, List.getD_eq_getElem?_getD, List.getElem?_eq_getElem zq7, Option.getD_some]
 rfl
theorem impl_trim (p : List UInt8) (hne : p ≠ []) (hs : p.length ≤ 1048576) : strings_TrimSuffix.f (mkB p) (⟨#[10]⟩ : ByteArray) = some (mkB (cutLT p)) := by
 have hpos := List.length_pos_iff.2 hne
 have w : wrap64 (((mkB p).size : Int) - ((⟨#[10]⟩ : ByteArray).size : Int)) = ((p.length - 1 : Nat) : Int) := by
  rw [size_mkB]
  exact wrap_down _ hpos zq7
 unfold strings_TrimSuffix.f stringslite_TrimSuffix.f stringslite_HasSuffix.f
 rw [w, size_mkB, if_pos (show (p.length : Int) ≥ (((⟨#[10]⟩ : ByteArray).size : Nat) : Int) from by show (p.length : Int) ≥ ((1 : Nat) : Int); omega), if_pos zq7, if_pos zq7, Int.toNat_natCast, toList_eq, extract_list, mkB_list, show p.length - (p.length - 1) = 1 by omega, drop_last_one hne, Option.bind_some, extract_init]
 unfold cutLT
 rw [last_get hne]
 by_cases h : p.getD (p.length - 1) 0 = 10
 · rw [h, if_pos (by rw [toList_eq]; rfl), if_pos zq7, if_pos zq7, if_pos rfl]
   rfl
 · rw [if_neg (fun z => h (by
    rw [toList_eq] at z
    exact (List.cons.inj (eq_of_beq z)).1)), if_neg (fun z => h (Option.some.inj z))]
   rfl
theorem impl_modeN (w : ByteArray) (k : Nat) (hk : 4 < k) : impl_modeOf.f k w = some (modeN w) := by
 obtain ⟨k, rfl⟩ : ∃ m, k = m + 4 := ⟨k - 4, by omega⟩
 have w0 : wrap64 ((0 : Int) + 1) = 1 := wrap_in zq13 zq13
 have w1 : wrap64 ((1 : Int) + 1) = 2 := wrap_in zq13 zq13
 have w2 : wrap64 ((2 : Int) + 1) = 3 := wrap_in zq13 zq13
 have wm : wrap64 ((-1 : Int) + 1) = 0 := wrap_in zq13 zq13
 have r0 : rdOf ByteArray.empty [(⟨#[102, 105, 108, 101]⟩ : ByteArray), ⟨#[114, 117, 110]⟩, ⟨#[116, 114, 101, 101]⟩] 0 = ⟨#[102, 105, 108, 101]⟩ := rfl
 have r1 : rdOf ByteArray.empty [(⟨#[102, 105, 108, 101]⟩ : ByteArray), ⟨#[114, 117, 110]⟩, ⟨#[116, 114, 101, 101]⟩] 1 = ⟨#[114, 117, 110]⟩ := rfl
 have r2 : rdOf ByteArray.empty [(⟨#[102, 105, 108, 101]⟩ : ByteArray), ⟨#[114, 117, 110]⟩, ⟨#[116, 114, 101, 101]⟩] 2 = ⟨#[116, 114, 101, 101]⟩ := rfl
 have l3 : ((([(⟨#[102, 105, 108, 101]⟩ : ByteArray), ⟨#[114, 117, 110]⟩, ⟨#[116, 114, 101, 101]⟩] : List ByteArray).length : Nat) : Int) = 3 := rfl
 unfold impl_modeOf.f slices_Index_string_string.f modeN
 simp only [slices_Index_string_string.l0, l3, w0, w1, w2, r0, r1, r2, toList_iff, show ((0 : Int) < 3) = True from eq_true zq13, show ((1 : Int) < 3) = True from eq_true zq13, show ((2 : Int) < 3) = True from eq_true zq13, show ((3 : Int) < 3) = False from eq_false zq13, show ((0 : Int) ≤ 0) = True from eq_true zq13, show ((0 : Int) ≤ 1) = True from eq_true zq13, show ((0 : Int) ≤ 2) = True from eq_true zq13, if_true, if_false]
 by_cases h1 : w = ⟨#[102, 105, 108, 101]⟩
 · rw [if_pos h1, if_pos h1, Option.bind_some, w0]
 · rw [if_neg h1, if_neg h1]
   by_cases h2 : w = ⟨#[114, 117, 110]⟩
   · rw [if_pos h2, if_pos h2, Option.bind_some, w1]
   · rw [if_neg h2, if_neg h2]
     by_cases h3 : w = ⟨#[116, 114, 101, 101]⟩
     · rw [if_pos h3, if_pos h3, Option.bind_some, w2]
     · rw [if_neg h3, if_neg h3, Option.bind_some, wm]
def tEq (D : List UInt8) (l : List ITree) : Bool := decide (treeV l = 0) && (X.treeL l == D)
theorem impl_untree (a0 : ByteArray) (L : List (List UInt8)) (hL : ∀ p ∈ L, p ≠ [] ∧ p.length ≤ 1048576) (hlen : L.length ≤ 1048576) : ∀ (d i : Nat), i + d = L.length → ∀ (out : List ITree), out.length = i → tSmall out → ∀ k, d + 2200000 < k →
 impl_decodeTree.l0 k a0 out (L.map mkB) ((L.map mkB).length : Int) (i : Int) = some (untree lineI (tEq a0.data.toList) out (L.drop i))
 | 0, i, hi, out, ho, hs, k, hk => by
   obtain ⟨k, rfl⟩ : ∃ m, k = m + 1 := ⟨k - 1, by omega⟩
   rw [impl_decodeTree.l0, if_neg (by rw [List.length_map]; omega), impl_tree out zq7 hs k zq7, Option.bind_some, List.drop_eq_nil_of_le zq7, untree_nil]
   unfold tEq
   by_cases hv : treeV out = 0
   · have hle := treeL_le out hs
     rw [if_pos hv, impl_tree_text out (treeV_tModes out hv) (by
      have : out.length ≤ 100 := by
       unfold treeV at hv
       by_cases h100 : out.length > 100
       · rw [if_pos h100] at hv; cases hv
       · omega
      omega) zq7, Option.bind_some, decide_eq_true hv, Bool.true_and, toList_eq, toList_eq]
     rfl
   · rw [if_neg hv, decide_eq_false hv, Bool.false_and]
 | d + 1, i, hi, out, ho, hs, k, hk => by
   obtain ⟨k, rfl⟩ : ∃ m, k = m + 1 := ⟨k - 1, by omega⟩
   have hlt : i < L.length := by omega
   have hmem : L.getD i [] ∈ L := getD_mem _ hlt
   obtain ⟨hne, hpl⟩ := hL _ hmem
   rw [drop_at L i hlt, impl_decodeTree.l0, if_pos (by rw [List.length_map]; omega), if_pos zq7, if_pos (by rw [List.length_map]; omega), getD_map L i hlt]
   generalize L.getD i [] = p at hne hpl
   have hcl := cut_le p
   rw [impl_trim p hne hpl, Option.bind_some, split_words (mkB (cutLT p)) (by rw [size_mkB]; omega), Option.bind_some, words_map]
   by_cases h3 : (spL (cutLT p)).length = 3
   · obtain ⟨a, b, c, habc⟩ := len_three h3
     obtain ⟨hb, hc⟩ := three habc
     rw [habc, if_pos (show (((([a, b, c] : List (List UInt8)).map mkB).length : Nat) : Int) = 3 from rfl), if_pos (show (0 : Int) < (((([a, b, c] : List (List UInt8)).map mkB).length : Nat) : Int) from by simp)]
     rw [show rdOf ByteArray.empty (([a, b, c] : List (List UInt8)).map mkB) 0 = mkB a from rfl, show rdOf ByteArray.empty (([a, b, c] : List (List UInt8)).map mkB) 1 = mkB b from rfl, show rdOf ByteArray.empty (([a, b, c] : List (List UInt8)).map mkB) 2 = mkB c from rfl, impl_modeN (mkB a) k zq7, Option.bind_some, Option.bind_some]
     by_cases h0 : modeN (mkB a) = 0
     · have he : lineI p = none := by
        unfold lineI
        rw [habc]
        show (if modeN (mkB a) = 0 then none else _) = none
        rw [if_pos h0]
       rw [if_pos h0, untree_none he]
     · have he : lineI p = some (⟨mkB c, modeN (mkB a), mkB b⟩ : ITree) := by
        unfold lineI
        rw [habc]
        show (if modeN (mkB a) = 0 then none else some _) = some _
        rw [if_neg h0]
       rw [if_neg h0, if_pos (show (2 : Int) < (((([a, b, c] : List (List UInt8)).map mkB).length : Nat) : Int) from by simp), if_pos (show (1 : Int) < (((([a, b, c] : List (List UInt8)).map mkB).length : Nat) : Int) from by simp), if_pos zq7, up1 i zq7, untree_some he]
       exact impl_untree a0 L hL hlen d (i + 1) zq7 _ (by rw [List.length_append, ho]; rfl) (tSmall_add hs _ _ _ (by show (mkB c).size ≤ 1048576; rw [size_mkB]; omega) (by show (mkB b).size ≤ 1048576; rw [size_mkB]; omega)) k zq7
   · have he : lineI p = none := by
      unfold lineI
      rw [ents_none h3]
      rfl
     rw [if_neg (by rw [List.length_map]; omega), untree_none he]
theorem flat_le : ∀ (L : List (List UInt8)), (∀ p ∈ L, p ≠ []) → L.length ≤ L.flatten.length ∧ ∀ p ∈ L, p.length ≤ L.flatten.length
 | [], _ => ⟨Nat.le_refl _, fun p hp => by cases hp⟩
 | q :: L, h => by
   obtain ⟨h1, h2⟩ := flat_le L (fun p hp => h p (List.mem_cons_of_mem _ hp))
   have hq := List.length_pos_iff.2 (h q List.mem_cons_self)
   rw [List.flatten_cons, List.length_append, List.length_cons]
   refine ⟨by omega, fun p hp => ?_⟩
   rcases List.mem_cons.1 hp with rfl | hp
   · omega
   · have := h2 p hp
     omega
theorem lines_in (D : List UInt8) (hD : D.length ≤ 1048576) : (lnL D).length ≤ 1048576 ∧ ∀ p ∈ lnL D, p ≠ [] ∧ p.length ≤ 1048576 := by
 obtain ⟨h1, h2⟩ := flat_le (lnL D) (lnL_ne D)
 rw [ln_flatT] at h1 h2
 exact ⟨by omega, fun p hp => ⟨lnL_ne D p hp, by have := h2 p hp; omega⟩⟩
theorem spec_untr (a0 : ByteArray) (h : a0.size ≤ 1048576) (k : Nat) (hk : 9000000 < k) : spec_l6Untree.f k a0 = some (untree lineS tOk [] (lnL a0.data.toList)) := by
 have hsz := size_list a0
 obtain ⟨h1, h2⟩ := lines_in a0.data.toList zq7
 unfold spec_l6Untree.f
 rw [spec_lines a0 zq7 k zq7, Option.bind_some]
 have e := spec_untree (lnL a0.data.toList) h2 h1 (lnL a0.data.toList).length 0 zq7 [] rfl (fun x hx => by cases hx) k zq7
 rw [show spec_l6Untree.l0 k [] (linesB a0) 0 = _ from e, List.drop_zero]
theorem impl_untr (a0 : ByteArray) (h : a0.size ≤ 1048576) (k : Nat) (hk : 9000000 < k) : impl_decodeTree.f k a0 = some (untree lineI (tEq a0.data.toList) [] (lnL a0.data.toList)) := by
 have hsz := size_list a0
 obtain ⟨h1, h2⟩ := lines_in a0.data.toList zq7
 unfold impl_decodeTree.f
 rw [impl_lines a0 zq7, Option.bind_some]
 have e := impl_untree a0 (lnL a0.data.toList) h2 h1 (lnL a0.data.toList).length 0 zq7 [] rfl (fun x hx => by cases hx) k zq7
 rw [show impl_decodeTree.l0 k a0 [] (linesB a0) ((linesB a0).length : Int) 0 = _ from e, List.drop_zero]
theorem untree_spec (D : List UInt8) : specD D = if (untree lineS tOk [] (lnL D)).2 = true then (0, (untree lineS tOk [] (lnL D)).1) else (5, []) := by
 unfold untree specD tOk
 cases (lnL D).mapM lineS with
 | none => rfl
 | some es =>
   show (if treeV es = 0 then _ else _) = (if (treeV es == 0) = true then _ else _)
   by_cases hv : treeV es = 0
   · rw [if_pos (beq_iff_eq.2 hv), if_pos hv]
     rfl
   · rw [if_neg (fun z => hv (beq_iff_eq.1 z)), if_neg hv]
theorem untree_impl (D : List UInt8) : specD D = if (untree lineI (tEq D) [] (lnL D)).2 = true then (0, (untree lineI (tEq D) [] (lnL D)).1) else (5, []) := by
 rw [← decode_same]
 unfold untree implD tEq
 cases (lnL D).mapM lineI with
 | none => rfl
 | some es =>
   show (if treeV es = 0 then _ else _) = (if (decide (treeV es = 0) && (X.treeL es == D)) = true then _ else _)
   by_cases hv : treeV es = 0
   · rw [decide_eq_true hv, Bool.true_and, if_pos hv]
     by_cases ht : X.treeL es = D
     · rw [if_pos (beq_iff_eq.2 ht), if_pos ht]
       rfl
     · rw [if_neg (fun z => ht (beq_iff_eq.1 z)), if_neg ht]
   · rw [if_neg hv, decide_eq_false hv, Bool.false_and]
     rfl
theorem runIn9 {step : Nat → Unit → Sum Int Unit} {fin : Unit → Int} (h0 : ∀ i r, step i () = .inl r → r ≠ 0) : ∀ (d i : Nat), run step fin d i () = 0 → ∀ j, i ≤ j → j < i + d → step j () = .inr ()
 | 0, i, _, j, h1, h2 => absurd h2 zq7
 | d + 1, i, h, j, h1, h2 => by
   cases hs : step i () with
   | inl r =>
     rw [run_out hs] at h
     exact absurd h (h0 i r hs)
   | inr s =>
     rw [run_on hs] at h
     by_cases e : j = i
     · subst e
       exact hs
     · exact runIn9 h0 d (i + 1) h j zq7 zq7
theorem treeStep_bad (l : List ITree) (i : Nat) (r : Int) (h : treeStep l i () = .inl r) : r ≠ 0 := by
 unfold treeStep at h
 repeat' split at h
 all_goals first | (rw [← Sum.inl.inj h]; decide) | cases h
theorem treeV_steps {l : List ITree} (h : treeV l = 0) : l.length ≤ 100 ∧ ∀ j, j < l.length → treeStep l j () = .inr () := by
 unfold treeV at h
 by_cases h100 : l.length > 100
 · rw [if_pos h100] at h
   cases h
 · rw [if_neg h100] at h
   exact ⟨by omega, fun j hj => runIn9 (treeStep_bad l) l.length 0 h j zq7 zq7⟩
theorem step_name {l : List ITree} {i : Nat} (h : treeStep l i () = .inr ()) : nameM (treeAt l i).f0.data.toList = true ∧ (0 < i → Op.bytesLess (treeAt l (i - 1)).f0.toList (treeAt l i).f0.toList = true) := by
 unfold treeStep at h
 split at h
 · rename_i h1
   refine ⟨h1, fun h0 => ?_⟩
   split at h
   · split at h
     · split at h
       · cases h
       · rename_i h4
         cases hb : Op.bytesLess (treeAt l (i - 1)).f0.toList (treeAt l i).f0.toList with
         | true => rfl
         | false => exact absurd ⟨h0, hb⟩ h4
     · cases h
   · cases h
 · cases h
theorem nameM_good {l : List UInt8} (h : nameM l = true) : l.length ≤ 12 ∧ ∀ b ∈ l, b ≠ 47 := by
 unfold nameM at h
 simp only [Bool.and_eq_true, decide_eq_true_eq] at h
 refine ⟨h.1.1.1.2, fun b hb z => ?_⟩
 have := List.all_eq_true.1 h.2 b hb
 rw [z] at this
 exact absurd this zq13
theorem treeAt_in {l : List ITree} {i : Nat} (h : i < l.length) : treeAt l i = l[i] := by
 unfold treeAt
 rw [List.getD_eq_getElem?_getD, List.getElem?_eq_getElem h, Option.getD_some]
theorem names_rise {l : List ITree} (h : ∀ j, j < l.length → treeStep l j () = .inr ()) : ∀ (d i : Nat), i + d + 1 < l.length → (treeAt l i).f0.data.toList < (treeAt l (i + d + 1)).f0.data.toList
 | 0, i, hi => by
   have := (step_name (h (i + 1) zq7)).2 zq7
   rw [Proofs.bytesLess_eq, decide_eq_true_eq, toList_eq, toList_eq, Nat.add_sub_cancel] at this
   exact this
 | d + 1, i, hi => by
   have h1 := names_rise h d i zq7
   have h2 := names_rise h 0 (i + d + 1) zq7
   exact List.lt_trans h1 h2
def trV (D : List UInt8) : Option (List ITree) := if (specD D).1 = 0 then some (specD D).2 else none
theorem spec_trV (a0 : ByteArray) (h : a0.size ≤ 1048576) (k : Nat) (hk : 9000000 < k) : ∃ e b, spec_l6Untree.f k a0 = some (e, b) ∧ (b = true → trV a0.data.toList = some e) ∧ (b = false → trV a0.data.toList = none) := by
 refine ⟨_, _, spec_untr a0 h k hk, fun hb => ?_, fun hb => ?_⟩
 · unfold trV
   rw [untree_spec, if_pos (show (untree lineS tOk [] (lnL a0.data.toList)).2 = true from hb)]
   rfl
 · unfold trV
   rw [untree_spec, if_neg (show ¬ (untree lineS tOk [] (lnL a0.data.toList)).2 = true from by rw [show (untree lineS tOk [] (lnL a0.data.toList)).2 = false from hb]; decide)]
   rfl
theorem impl_trV (a0 : ByteArray) (h : a0.size ≤ 1048576) (k : Nat) (hk : 9000000 < k) : ∃ e b, impl_decodeTree.f k a0 = some (e, b) ∧ (b = true → trV a0.data.toList = some e) ∧ (b = false → trV a0.data.toList = none) := by
 refine ⟨_, _, impl_untr a0 h k hk, fun hb => ?_, fun hb => ?_⟩
 · unfold trV
   rw [untree_impl, if_pos (show (untree lineI (tEq a0.data.toList) [] (lnL a0.data.toList)).2 = true from hb)]
   rfl
 · unfold trV
   rw [untree_impl, if_neg (show ¬ (untree lineI (tEq a0.data.toList) [] (lnL a0.data.toList)).2 = true from by rw [show (untree lineI (tEq a0.data.toList) [] (lnL a0.data.toList)).2 = false from hb]; decide)]
   rfl
theorem trV_good {D : List UInt8} {es : List ITree} (h : trV D = some es) : es.length ≤ 100 ∧ (∀ e ∈ es, e.f0.data.toList.length ≤ 12 ∧ ∀ b ∈ e.f0.data.toList, b ≠ 47) ∧ (es.map fun e => e.f0.data.toList).Nodup := by
 have hv : treeV es = 0 := by
  unfold trV at h
  by_cases hc : (specD D).1 = 0
  · rw [if_pos hc] at h
    have he := Option.some.inj h
    unfold specD at he hc
    cases hm : (lnL D).mapM lineS with
    | none => rw [hm] at hc; exact absurd hc zq13
    | some ts =>
      rw [hm] at hc he
      simp only at hc he
      by_cases ht : treeV ts = 0
      · rw [if_pos ht] at he
        rw [← he]
        exact ht
      · rw [if_neg ht] at hc
        exact absurd hc zq13
  · rw [if_neg hc] at h
    cases h
 obtain ⟨h1, h2⟩ := treeV_steps hv
 refine ⟨h1, fun e he => ?_, ?_⟩
 · obtain ⟨i, hi, rfl⟩ := List.getElem_of_mem he
   have := (step_name (h2 i hi)).1
   rw [treeAt_in hi] at this
   exact nameM_good this
 · unfold List.Nodup
   rw [List.pairwise_iff_getElem]
   intro i j hi hj hij
   rw [List.length_map] at hi hj
   rw [List.getElem_map, List.getElem_map]
   have := names_rise h2 (j - i - 1) i zq7
   rw [show i + (j - i - 1) + 1 = j from by omega, treeAt_in hi, treeAt_in hj] at this
   exact fun z => List.lt_irrefl _ (z ▸ this)
end Go.Proofs.YtkjgnnhpjcofiaaGreatDoorX.TD
