/- Texts of this claim set one behind another by wip/bundle.py: PXf102, XPath, XMode. -/
import Derived.Test.YtjibadlbiapcmaaDoorBAD12
import Derived.Test.YtjibadlbiapcmaaDoorBAD13
import Derived.Test.YtjibadlbiapcmaaDoorBAD22
import Derived.Test.YtjibadlbiapcmaaDoorBAD2
import Derived.Test.YtjibadlbiapcmaaDoorBAD7
import Derived.Test.YtjibadlbiapcmaaDoorBAD23
namespace Go.Proofs.YtjibadlbiapcmaaDoor.PX
open Go.RowKit Go.Proofs.YtjibadlbiapcmaaDoorW.PrintWords Go.Proofs.YtjibadlbiapcmaaDoorW.PrintLast Go.Proofs.YtjibadlbiapcmaaDoorW.PrintMore
attribute [local go_sem] max2_int min2_int max_two min_two max_three min_three max_four min_four   -- for this text's walks alone
set_option linter.unusedVariables false
set_option linter.unusedSimpArgs false

/-! ### impl_PathFault: function 102 -/
def impl_PathFault.pieces (a0 : ByteArray) : List ByteArray := Lib.splitB ⟨#[47]⟩ 0 (Lib.countB a0 ⟨#[47]⟩) a0
def impl_PathFault.bad (x : ByteArray) : Bool := !YtjibadlbiapcmaaDoorX.nameM x.data.toList
def impl_PathFault.v (a0 : ByteArray) : Int := if (impl_PathFault.pieces a0).length ≤ 4 then (if (impl_PathFault.pieces a0).any impl_PathFault.bad then 1 else 0) else 1
def impl_PathFault.f (a0 : ByteArray) : Option Int := if a0.size < 4294967281 then some (impl_PathFault.v a0) else none
theorem impl_PathFault.lit (W : World) (x : ByteArray) : Calls Tryd.prog 149 #[.string x] W fun e w' => e = .returned (.bool (impl_PathFault.bad x)) ∧ ∃ q, w' = W.drewN q := by
 have hc : impl_NameFault.f (x.size + 20) x = some (if YtjibadlbiapcmaaDoorX.nameM x.data.toList = true then 0 else 1) := YtjibadlbiapcmaaDoorX.impl_name x _ (by omega)
 unfold impl_PathFault.bad
 cases hn : YtjibadlbiapcmaaDoorX.nameM x.data.toList <;> rw [hn] at hc <;> simp only [Bool.false_eq_true, if_false, if_true] at hc
 all_goals
  have HC := impl_NameFault.calls (x.size + 20) x _ W hc
  clear hc hn
  go_enter Tryd.func149, Tryd.ntmps149
  go_wp2_with (go_at_call 150; refine HC.mono ?_; rintro e w' ⟨rfl, ⟨q, rfl⟩⟩)
  go_ret
  exact ⟨rfl, _, rfl⟩
set_option maxHeartbeats 1000000 in
theorem impl_PathFault.split (s : ByteArray) (w : World) (hs : s.size < 4294967281) :
  Calls Tryd.prog 147 #[.string s, .string ⟨#[47]⟩] w fun e w' => e = .returned (.slice (some ⟨w.heap.size, 0, none⟩) (impl_PathFault.pieces s).length (impl_PathFault.pieces s).length) ∧ w' = w.alloc (.cells ((impl_PathFault.pieces s).map Value.string).toArray 9) := by
 have HC := Lib.hid (X.genSplit_one s ⟨#[47]⟩ 0 w rfl (by decide) hs)
 clear hs
 unfold impl_PathFault.pieces
 go_enter Tryd.func147, Tryd.ntmps147
 go_wp2_with (go_at_call 172; refine HC.out.mono ?_; rintro e w' ⟨rfl, rfl⟩)
 go_ret
 exact ⟨rfl, rfl⟩
theorem impl_PathFault.eg (args : Array Value) (w : World) : (callFunc 149 args).run Tryd.prog w = .ok (.enter 149 args) w := enters_of Tryd.func149 (by kernel_rfl) rfl args w
theorem impl_PathFault.anyOf (l : List ByteArray) (w w0 : World) (hl : l.length ≤ 9223372036854775807) (hw : w = w0.alloc (.cells (l.map Value.string).toArray 9)) :
  Calls Tryd.prog 148 #[.slice (some ⟨w0.heap.size, 0, none⟩) l.length l.length, .func (.func 149) #[] #[]] w fun e w' => e = .returned (.bool (l.any impl_PathFault.bad)) ∧ ∃ q, w' = w.drewN q := by
 have key := AnyE.slices_ContainsFunc Tryd.laysConStr Value.string impl_PathFault.bad 149 #[] impl_PathFault.eg w0.heap.size 0 l.length l.length l w (fun W x _ => impl_PathFault.lit W x) (Nat.le_refl _) hl (fun j hj => by
  subst hw
  rw [Nat.zero_add]
  simp [hj])
 rw [List.take_length] at key
 exact key
set_option maxHeartbeats 1000000 in
theorem impl_PathFault.calls (a0 : ByteArray) (r : Int) (w : World) (h : impl_PathFault.f a0 = some r) :
  Calls Tryd.prog 102 #[.string a0] w fun e w' => e = .returned (.int .i64 r) ∧ Below w.heap.size w w' := by
 unfold impl_PathFault.f at h
 by_cases h2 : a0.size < 4294967281
 ·
  rw [if_pos h2] at h
  obtain rfl := Option.some.inj h
  have hle : (impl_PathFault.pieces a0).length ≤ a0.size + 1 := X.pieces_le a0 ⟨#[47]⟩ 0 rfl h2
  have HS := Lib.hid (impl_PathFault.split a0 w h2)
  have HA := Lib.hid (impl_PathFault.anyOf (impl_PathFault.pieces a0) (w.alloc (.cells ((impl_PathFault.pieces a0).map Value.string).toArray 9)) w (by omega) rfl)
  unfold impl_PathFault.v
  clear h h2 hle
  by_cases h4 : (impl_PathFault.pieces a0).length ≤ 4
  ·
   rw [if_pos h4]
   have h4z : ¬ ((impl_PathFault.pieces a0).length : Int) > 4 := by omega
   clear h4
   generalize (impl_PathFault.pieces a0).any impl_PathFault.bad = b at HA ⊢
   cases b <;> simp only [Bool.false_eq_true, if_false, if_true]
   all_goals
    go_enter Tryd.func102, Tryd.ntmps102
    go_wp2_with (first | (go_at_call 147; refine HS.out.mono ?_; rintro e w' ⟨rfl, rfl⟩) | (go_at_call 148; refine HA.out.mono ?_; rintro e w' ⟨rfl, q, rfl⟩))
    all_goals go_ret
    all_goals first | exact ⟨rfl, below_drewN' ((Below.refl _ w).alloc (Nat.le_refl _) _) q⟩ | (clear HS HA; exfalso; simp_all <;> omega)
  ·
   rw [if_neg h4]
   have h4z : ((impl_PathFault.pieces a0).length : Int) > 4 := by omega
   clear h4 HA
   go_enter Tryd.func102, Tryd.ntmps102
   go_wp2_with (go_at_call 147; refine HS.out.mono ?_; rintro e w' ⟨rfl, rfl⟩)
   all_goals go_ret
   all_goals first | (exfalso; omega) | exact ⟨by first | rfl | simp_all, (Below.refl _ w).alloc (Nat.le_refl _) _⟩
 ·
  rw [if_neg h2] at h
  cases h

end Go.Proofs.YtjibadlbiapcmaaDoor.PX

namespace Go.Proofs.YtjibadlbiapcmaaDoorX
open Go Go.RowKit Go.Proofs.YtjibadlbiapcmaaDoorW.PrintWords Go.Proofs.YtjibadlbiapcmaaDoor.PX

/-- Text cut at each slash. -/
def splitL : List UInt8 → List (List UInt8)
  | [] => [[]]
  | b :: l => if b = 47 then [] :: splitL l else match splitL l with | [] => [[b]] | p :: ps => (b :: p) :: ps
theorem splitL_some : ∀ l, ∃ p ps, splitL l = p :: ps
  | [] => ⟨[], [], rfl⟩
  | b :: l => by
    unfold splitL
    split
    · exact ⟨_, _, rfl⟩
    · split <;> exact ⟨_, _, rfl⟩
theorem splitL_other {b : UInt8} {l p : List UInt8} {ps : List (List UInt8)} (hb : b ≠ 47) (h : splitL l = p :: ps) : splitL (b :: l) = (b :: p) :: ps := by
  rw [splitL, if_neg hb, h]
def partsB (s : ByteArray) : List ByteArray := (splitL s.data.toList).map mkB

theorem splitL_miss : ∀ l : List UInt8, Lib.indexByte l 47 = -1 → splitL l = [l]
  | [], _ => rfl
  | b :: l, h => by
    unfold Lib.indexByte at h
    by_cases hb : b = 47
    · subst hb
      simp at h
    · rw [if_neg (by simpa using hb)] at h
      by_cases h2 : Lib.indexByte l 47 = -1
      · exact splitL_other hb (splitL_miss l h2)
      · rw [if_neg (by simpa using h2)] at h
        have := Lib.indexByte_ge l 47
        omega
theorem splitL_hit : ∀ (l : List UInt8) (i : Nat), Lib.indexByte l 47 = (i : Int) → splitL l = l.take i :: splitL (l.drop (i + 1))
  | [], i, h => by
    unfold Lib.indexByte at h
    omega
  | b :: l, i, h => by
    unfold Lib.indexByte at h
    by_cases hb : b = 47
    · subst hb
      rw [if_pos (by decide)] at h
      have : i = 0 := by omega
      subst this
      rw [splitL, if_pos rfl]
      rfl
    · rw [if_neg (by simpa using hb)] at h
      by_cases h2 : Lib.indexByte l 47 = -1
      · rw [if_pos (by simpa using h2)] at h
        omega
      · rw [if_neg (by simpa using h2)] at h
        have := Lib.indexByte_ge l 47
        obtain ⟨m, hm⟩ : ∃ m : Nat, Lib.indexByte l 47 = (m : Int) := ⟨(Lib.indexByte l 47).toNat, by omega⟩
        have e : i = m + 1 := by omega
        subst e
        exact splitL_other hb (splitL_hit l m hm)

theorem index_of (s : ByteArray) : Lib.indexB s ⟨#[47]⟩ = Lib.indexByte s.data.toList 47 := Lib.index_one _ _

theorem splitB_parts : ∀ (k : Nat) (s : ByteArray), Lib.countB s ⟨#[47]⟩ = k → Lib.splitB ⟨#[47]⟩ 0 k s = partsB s
  | 0, s, hk => by
    rcases Lib.indexB_cases s ⟨#[47]⟩ with hix | ⟨i, hix, _⟩
    · unfold partsB
      rw [splitL_miss _ ((index_of s).symm.trans hix)]
      show [s] = [mkB s.data.toList]
      rw [← mkB_of rfl]
    · have := Lib.countB_hit s ⟨#[47]⟩ i (by decide) hix
      omega
  | k + 1, s, hk => by
    rcases Lib.indexB_cases s ⟨#[47]⟩ with hix | ⟨i, hix, hroom⟩
    · rw [Lib.countB_miss s ⟨#[47]⟩ hix] at hk; omega
    · rw [Lib.splitB_hit ⟨#[47]⟩ 0 k s i hix, splitB_parts k _ (by have := Lib.countB_hit s ⟨#[47]⟩ i (by decide) hix; omega)]
      unfold partsB
      rw [splitL_hit _ i ((index_of s).symm.trans hix), List.map_cons]
      congr 1
      · apply mkB_of
        rw [extract_list, List.drop_zero]
        rfl
      · congr 2
        rw [extract_list]
        apply List.take_of_length_le
        rw [List.length_drop, ← size_list]
        exact Nat.le_refl _
theorem pieces_eq (s : ByteArray) : impl_PathFault.pieces s = partsB s := splitB_parts _ s rfl

/-- The reference's loop over the bytes: what has been cut, where the next piece begins. -/
theorem l7Parts_from (s : ByteArray) (hs : s.size ≤ 1099511627776) : ∀ (d i : Nat), i + d = s.size → ∀ (out : List ByteArray) (fr : Nat), fr ≤ i → out.length ≤ fr → ∀ (p : List UInt8) (ps : List (List UInt8)), splitL (s.data.toList.drop i) = p :: ps → ∀ k, d + 2 < k →
    spec_l7Parts.l0 k s out (fr : Int) (i : Int) = some (out ++ mkB ((s.data.toList.drop fr).take (i - fr) ++ p) :: ps.map mkB)
  | 0, i, hi, out, fr, hf, ho, p, ps, hp, k, hk => by
    obtain ⟨k, rfl⟩ : ∃ m, k = m + 2 := ⟨k - 2, by omega⟩
    have e : i = s.size := by omega
    subst e
    rw [List.drop_of_length_le (by rw [← size_list]; exact Nat.le_refl _)] at hp
    obtain ⟨rfl, rfl⟩ := List.cons.inj hp
    rw [spec_l7Parts.l0, if_pos (by omega), if_pos rfl, if_pos (by omega), if_pos (by omega), if_pos (by omega), wrap_in (by omega) (by omega), spec_l7Parts.l0, if_neg (by omega)]
    rw [List.append_nil, Int.toNat_natCast, Int.toNat_natCast, ← extract_list, ← mkB_of rfl]
    rfl
  | d + 1, i, hi, out, fr, hf, ho, p, ps, hp, k, hk => by
    obtain ⟨k, rfl⟩ : ∃ m, k = m + 1 := ⟨k - 1, by omega⟩
    have hlt : i < s.data.toList.length := by rw [← size_list]; omega
    have eb : s.data.toList.getD i 0 = s.data.toList[i] := by rw [List.getD_eq_getElem?_getD, List.getElem?_eq_getElem hlt, Option.getD_some]
    rw [List.drop_eq_getElem_cons hlt] at hp
    rw [spec_l7Parts.l0, if_pos (by omega), if_neg (by omega), if_pos (by omega), if_pos (by omega), bt_nat, eb]
    generalize hb : s.data.toList[i] = b at hp
    obtain ⟨q, qs, hq⟩ := splitL_some (s.data.toList.drop (i + 1))
    by_cases h47 : b = 47
    · subst h47
      rw [splitL, if_pos rfl] at hp
      obtain ⟨rfl, rfl⟩ := List.cons.inj hp
      rw [if_pos (by decide), if_pos (by omega), if_pos (by omega), if_pos (by omega), wrap_in (by omega) (by omega), show ((i : Int) + 1) = ((i + 1 : Nat) : Int) from rfl]
      rw [l7Parts_from s hs d (i + 1) (by omega) _ (i + 1) (Nat.le_refl _) (by rw [List.length_append]; show out.length + 1 ≤ i + 1; omega) q qs hq k (by omega)]
      rw [Nat.sub_self, List.take_zero, List.nil_append, List.append_nil, hq, Int.toNat_natCast, Int.toNat_natCast, List.append_assoc, ← extract_list, ← mkB_of rfl]
      rfl
    · rw [splitL_other h47 hq] at hp
      obtain ⟨rfl, rfl⟩ := List.cons.inj hp
      rw [if_neg (fun z => h47 (UInt8.toNat_inj.1 (by have : b.toNat = 47 := by omega
                                                      rw [this]; rfl))), wrap_in (by omega) (by omega), show ((i : Int) + 1) = ((i + 1 : Nat) : Int) from rfl]
      rw [l7Parts_from s hs d (i + 1) (by omega) _ fr (by omega) ho q qs hq k (by omega)]
      congr 3
      rw [show i + 1 - fr = (i - fr) + 1 by omega, List.take_succ_eq_append_getElem (by rw [List.length_drop]; omega), List.append_assoc, List.getElem_drop]
      simp only [show fr + (i - fr) = i by omega]
      rw [hb]
      rfl

theorem spec_parts (s : ByteArray) (hs : s.size ≤ 1099511627776) (k : Nat) (hk : s.size + 2 < k) : spec_l7Parts.f k s = some (partsB s) := by
  obtain ⟨p, ps, hp⟩ := splitL_some s.data.toList
  unfold spec_l7Parts.f partsB
  rw [hp]
  exact l7Parts_from s hs s.size 0 (by omega) [] 0 (Nat.le_refl _) (Nat.le_refl _) p ps hp k hk

theorem partsB_le (s : ByteArray) (hs : s.size < 4294967281) : (partsB s).length ≤ s.size + 1 := by
  rw [← pieces_eq]
  exact X.pieces_le s ⟨#[47]⟩ 0 rfl hs

def partStep (l : List ByteArray) (i : Nat) (_ : Unit) : Sum Int Unit := if nameM (l.getD i ByteArray.empty).data.toList = true then .inr () else .inl 1
theorem run_part (l : List ByteArray) : run (partStep l) (fun _ => (0 : Int)) l.length 0 () = if l.any impl_PathFault.bad = true then 1 else 0 := by
  have key : ∀ d i, i + d = l.length → run (partStep l) (fun _ => (0 : Int)) d i () = if (l.drop i).any impl_PathFault.bad = true then 1 else 0 := by
    intro d
    induction d with
    | zero =>
      intro i hi
      rw [run_zero, List.drop_of_length_le (by omega)]
      rfl
    | succ d ih =>
      intro i hi
      have hlt : i < l.length := by omega
      have e : l.getD i ByteArray.empty = l[i] := by rw [List.getD_eq_getElem?_getD, List.getElem?_eq_getElem hlt, Option.getD_some]
      rw [List.drop_eq_getElem_cons hlt, List.any_cons, ← e]
      unfold impl_PathFault.bad
      cases h : nameM (l.getD i ByteArray.empty).data.toList with
      | true => rw [run_on (s' := ()) (by unfold partStep; rw [h]; rfl), ih (i + 1) (by omega), Bool.not_true, Bool.false_or]; rfl
      | false => rw [run_out (r := (1 : Int)) (by unfold partStep; rw [h]; rfl)]; rfl
  exact key l.length 0 (by omega)

/-- What PathFault tells. -/
def pathV (s : ByteArray) : Int := impl_PathFault.v s
theorem pathV_two (s : ByteArray) : pathV s = 0 ∨ pathV s = 1 := by
  unfold pathV impl_PathFault.v
  (repeat' split) <;> simp
theorem impl_path (s : ByteArray) (hs : s.size < 4294967281) : impl_PathFault.f s = some (pathV s) := by
  unfold impl_PathFault.f
  rw [if_pos hs]
  rfl
theorem spec_path (s : ByteArray) (hs : s.size < 4294967281) (k : Nat) (hk : s.size + 40 < k) : spec_PathFault.f k s = some (pathV s) := by
  have hle := partsB_le s hs
  unfold spec_PathFault.f
  rw [spec_parts s (by omega) k (by omega), Option.bind_some]
  unfold pathV impl_PathFault.v
  rw [pieces_eq]
  by_cases h4 : (partsB s).length ≤ 4
  · rw [if_neg (by omega), if_pos h4, ← run_part]
    refine loop0 (F := fun k i (_ : Unit) => spec_PathFault.l0 k (partsB s) (i : Int)) (partsB s).length 20 (fun _ _ => True) (fun _ _ _ _ _ _ => trivial) (fun k i _ hK hi _ => ?_) (fun k _ _ _ => ?_) () trivial k (by omega)
    · simp only [spec_PathFault.l0]
      rw [if_pos (by omega), if_pos (by omega), wrap_in (by omega) (by omega), rdOf_nat, spec_name _ k (by omega), Option.bind_some]
      unfold partStep
      cases nameM ((partsB s).getD i ByteArray.empty).data.toList <;> rfl
    · simp only [spec_PathFault.l0]
      rw [if_neg (by omega)]
  · rw [if_pos (by omega), if_neg h4]
def modeOk (a : Int) : Bool := decide (a = 1) || decide (a = 2)
theorem impl_mode (a : Int) : impl_isFileMode.f a = some (modeOk a) := by
  unfold impl_isFileMode.f modeOk
  by_cases h : a = 1
  · rw [if_pos h, decide_eq_true h, Bool.true_or]
  · rw [if_neg h, decide_eq_false h, Bool.false_or]; rfl
end Go.Proofs.YtjibadlbiapcmaaDoorX
