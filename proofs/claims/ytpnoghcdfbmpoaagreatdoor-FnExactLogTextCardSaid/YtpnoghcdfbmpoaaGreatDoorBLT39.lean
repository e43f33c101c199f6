/- Texts of this claim set one behind another by wip/bundle.py: XComT. -/
import Derived.Test.YtpnoghcdfbmpoaaGreatDoorBLT27
import Derived.Test.YtpnoghcdfbmpoaaGreatDoorBLT21
import Derived.Test.YtpnoghcdfbmpoaaGreatDoorBLT36
namespace Go.Proofs.YtpnoghcdfbmpoaaGreatDoorX
open Go Go.RowKit Go.Proofs.YtpnoghcdfbmpoaaGreatDoorW.PrintWords Go.Proofs.YtpnoghcdfbmpoaaGreatDoor.PX
set_option linter.unusedVariables false
set_option linter.unusedSimpArgs false
theorem within_in (a lo hi : Int) : impl_within.f a lo hi = some (decide (lo ≤ a) && decide (a ≤ hi)) := by
 unfold impl_within.f
 by_cases h : a ≥ lo
 · rw [if_pos h, decide_eq_true h, Bool.true_and]
 · rw [if_neg h, decide_eq_false zq7, Bool.false_and]
theorem commit_time (tree : ByteArray) (ps : List ByteArray) (time : Int) (note : ByteArray) (hn : note.size ≤ 1048576) (hl : ps.length ≤ 3) (hno : ¬ (0 ≤ time ∧ time ≤ 1000000000)) :
 ∀ (d i k : Nat), ps.length - i = d → i ≤ ps.length → note.size + 20 + 5 * d < k → impl_CommitFault.l0 k ps (ps.length : Int) (i : Int) tree ps time note ≠ some 0 := by
 intro d
 induction d with
 | zero =>
   intro i k hd hi hk
   obtain ⟨k, rfl⟩ : ∃ m, k = m + 1 := ⟨k - 1, by omega⟩
   simp only [impl_CommitFault.l0]
   rw [if_neg zq7, within_in, Option.bind_some, impl_note note hn k zq7]
   have hb : (decide (0 ≤ time) && decide (time ≤ 1000000000)) = false := by
    rw [Bool.and_eq_false_iff, decide_eq_false_iff_not, decide_eq_false_iff_not]
    omega
   rw [hb]
   unfold impl_codeIf.f
   cases noteM note <;> simp [firstCode_two _ _ k (show 3 ≤ k by omega)]
 | succ d ih =>
   intro i k hd hi hk
   obtain ⟨k, rfl⟩ : ∃ m, k = m + 1 := ⟨k - 1, by omega⟩
   simp only [impl_CommitFault.l0]
   have g2 : impl_isIdOf.f 3 (rdOf ByteArray.empty ps (i : Int)) = _ := impl_isIdOf_tells 3 zq7 _
   rw [if_pos zq7, if_pos zq7, if_pos zq7, g2, Option.bind_some]
   cases isIdOfM 3 (rdOf ByteArray.empty ps (i : Int)).data.toList with
   | false =>
     rw [if_neg zq9]
     intro h
     cases h
   | true =>
     rw [if_pos rfl, if_pos zq7]
     obtain ⟨b, hb, hbi⟩ := contains_tells (ps.take (i : Int).toNat) (rdOf ByteArray.empty ps (i : Int)) (by rw [List.length_take]; omega) k (by rw [List.length_take]; omega)
     rw [hb, Option.bind_some]
     cases b with
     | true =>
       rw [if_pos rfl]
       intro h
       cases h
     | false =>
       rw [if_neg zq9, wrap_in zq7 zq7]
       exact ih (i + 1) k zq7 zq7 zq7
theorem commit_zero (tree : ByteArray) (ps : List ByteArray) (time : Int) (note : ByteArray) (hn : note.size ≤ 1048576) (k : Nat) (hk : note.size + 40 ≤ k) (h : impl_CommitFault.f k tree ps time note = some 0) : ps.length ≤ 3 ∧ 0 ≤ time ∧ time ≤ 1000000000 := by
 unfold impl_CommitFault.f at h
 have g2 : impl_isIdOf.f 2 tree = _ := impl_isIdOf_tells 2 zq7 _
 rw [g2, Option.bind_some] at h
 cases hid : isIdOfM 2 tree.data.toList with
 | false =>
   rw [hid, if_neg zq9] at h
   cases h
 | true =>
   rw [hid, if_pos rfl] at h
   by_cases h3 : (ps.length : Int) > 3
   · rw [if_pos h3] at h
     cases h
   · rw [if_neg h3] at h
     refine ⟨by omega, ?_⟩
     by_cases hr : 0 ≤ time ∧ time ≤ 1000000000
     · exact hr
     · exact absurd h (commit_time tree ps time note hn zq7 hr ps.length 0 k zq7 zq7 zq7)
abbrev bParent : ByteArray := ⟨#[112, 97, 114, 101, 110, 116, 32]⟩
abbrev bTime : ByteArray := ⟨#[116, 105, 109, 101, 32]⟩
abbrev bNote : ByteArray := ⟨#[10, 110, 111, 116, 101, 32]⟩
abbrev bNl : ByteArray := ⟨#[10]⟩
def addP (out : ByteArray) : List ByteArray → ByteArray
 | [] => out
 | p :: ps => addP (((out ++ bParent) ++ p) ++ bNl) ps
def finC (out : ByteArray) (u : Nat) (note : ByteArray) : ByteArray := ((((out ++ bTime) ++ mkB (Lib.decDigits u)) ++ bNote) ++ note) ++ bNl
theorem zP : bParent.size = 7 := rfl
theorem zT : bTime.size = 5 := rfl
theorem zN : bNote.size = 6 := rfl
theorem zL : bNl.size = 1 := rfl
theorem drop_str (L : List ByteArray) (i : Nat) (h : i < L.length) : L.drop i = L.getD i ByteArray.empty :: L.drop (i + 1) := by
 rw [List.drop_eq_getElem_cons h, List.getD_eq_getElem?_getD, List.getElem?_eq_getElem h, Option.getD_some]
theorem impl_dec10 (u : Nat) (hu : u ≤ 1000000000) : impl_decimal.f (u : Int) = some (mkB (Lib.decDigits u)) := by
 unfold impl_decimal.f strconv_FormatInt_77.f
 rw [if_pos rfl, if_pos zq7, if_pos zq7, Option.bind_some, Lib.itoa_nonneg]
 rfl
theorem impl_text_from (tree : ByteArray) (ps : List ByteArray) (u : Nat) (note : ByteArray) (hn : note.size ≤ 1048576) (hp : ∀ x ∈ ps, x.size ≤ 1048576) (hu : u ≤ 1000000000) (hl : ps.length ≤ 3) :
 ∀ (d i : Nat), i + d = ps.length → ∀ (out : ByteArray), out.size + d * 1048600 ≤ 1000000000000 → ∀ k, d + 20 < k → impl_commitText.l0 k out ps (ps.length : Int) (i : Int) tree ps (u : Int) note = some (finC (addP out (ps.drop i)) u note)
 | 0, i, hi, out, ho, k, hk => by
   obtain ⟨k, rfl⟩ : ∃ m, k = m + 1 := ⟨k - 1, by omega⟩
   have hlen := digits_le u u (Nat.le_refl _)
   rw [impl_commitText.l0, if_neg zq7, if_pos zq7, impl_dec10 u hu, Option.bind_some]
   rw [if_pos (by simp only [ByteArray.size_append, mkB_len, zT]; omega), if_pos (by simp only [ByteArray.size_append, mkB_len, zT]; omega), if_pos (by simp only [ByteArray.size_append, mkB_len, zT, zN]; omega), if_pos (by simp only [ByteArray.size_append, mkB_len, zT, zN]; omega), List.drop_eq_nil_of_le zq7]
   rfl
 | d + 1, i, hi, out, ho, k, hk => by
   obtain ⟨k, rfl⟩ : ∃ m, k = m + 1 := ⟨k - 1, by omega⟩
   have hlt : i < ps.length := by omega
   have hx := hp _ (getD_mem ByteArray.empty hlt)
   have w : wrap64 ((i : Int) + 1) = ((i + 1 : Nat) : Int) := (wrap_in zq7 zq7).trans zq7
   rw [drop_str ps i hlt, impl_commitText.l0, if_pos zq7, if_pos zq7, if_pos zq7, rdOf_nat, w]
   generalize ps.getD i ByteArray.empty = p at hx
   have e : out ++ ((bParent ++ p) ++ bNl) = (((out ++ bParent) ++ p) ++ bNl) := by
    simp only [ByteArray.append_assoc]
   rw [if_pos zq7, if_pos (by simp only [ByteArray.size_append, zP]; omega), if_pos (by simp only [ByteArray.size_append, zP, zL]; omega), e]
   exact impl_text_from tree ps u note hn hp hu hl d (i + 1) zq7 _ (by simp only [ByteArray.size_append, zP, zL]; omega) k zq7
def headC (tree : ByteArray) : ByteArray := ((⟨#[116, 114, 101, 101, 32]⟩ : ByteArray) ++ tree) ++ bNl
theorem zH (tree : ByteArray) : (headC tree).size = 5 + tree.size + 1 := by
 unfold headC
 simp only [ByteArray.size_append]
 rfl
theorem z5 : (⟨#[116, 114, 101, 101, 32]⟩ : ByteArray).size = 5 := rfl
theorem impl_commit_text (tree : ByteArray) (ps : List ByteArray) (u : Nat) (note : ByteArray) (ht : tree.size ≤ 1048576) (hn : note.size ≤ 1048576) (hp : ∀ x ∈ ps, x.size ≤ 1048576) (hu : u ≤ 1000000000) (hl : ps.length ≤ 3) (k : Nat) (hk : 40 < k) :
 impl_commitText.f k tree ps (u : Int) note = some (finC (addP (headC tree) ps) u note) := by
 have hz := zH tree
 have e := impl_text_from tree ps u note hn hp hu hl ps.length 0 zq7 (headC tree) zq7 k zq7
 rw [List.drop_zero] at e
 unfold impl_commitText.f
 rw [if_pos zq7, if_pos (by simp only [ByteArray.size_append, z5]; omega)]
 exact e
end Go.Proofs.YtpnoghcdfbmpoaaGreatDoorX
